/-
  SkDa, SkDb, SkDc: what is wanted of them.
-/
import Derived.Test.YtnedmonlofbahaaGreatDoorDwB
set_option maxRecDepth 100000
set_option maxHeartbeats 32000000
namespace Go.Proofs.YtnedmonlofbahaaGreatDoor
open Go Go.RowKit Go.Joins
set_option linter.all false
abbrev RS:=Nat×Bool
def onS {α:Type} (z:α) (f:Nat->PR α):RS->α×RS
 |(k,true)=>match f k with
  | .good x m=>(x,(m,true))
  | .bad j=>(z,(j,false))
 |(k,false)=>(z,(k,false))
def f8 (l:List LTok) (k:Nat):PR (List UInt8):=(cp 1 l k).bind fun t m=> .good t.text m
def oM (l:List LTok) (k:Nat):PR Int:=(cp 2 l k).bind fun t m=> .good t.num m
def cq (l:List LTok):RS->List UInt8×RS:=onS [] (f8 l)
def gN (l:List LTok):RS->Int×RS:=onS 0 (oM l)
def cE (l:List LTok) (so:Int) (b:List UInt8) (s:RS):RS:=(onS () (bC so b l) s).2
def jc (l:List LTok):RS->List Int×RS:=onS [] (numsP l)
def dv (l:List LTok) (s:RS):LPl×RS:=
 let r1:=cq l s
 let s2:=cE l 3 [46] r1.2
 let r3:=gN l s2
 (⟨r1.1,r3.1,atT l s.1⟩,r3.2)
theorem dK {α:Type} {z:α} {f:Nat->PR α} {k m:Nat} {x:α} (h:f k= .good x m):onS z f (k,true)=(x,(m,true)):=by simp only[onS,h]
theorem fy {α:Type} {z:α} {f:Nat->PR α} {k j:Nat} (h:f k= .bad j):onS z f (k,true)=(z,(j,false)):=by simp only[onS,h]
theorem xd {l:List LTok} {k:Nat} {t:LTok} (h:l[k]? =some t) (hs:t.sort=1):cq l (k,true)=(t.text,(k+1,true)):=
 dK (by unfold f8;rw[cO h,if_pos hs];rfl)
theorem zM {l:List LTok} {k:Nat} {t:LTok} (h:l[k]? =some t) (hs:t.sort≠1):cq l (k,true)=([],(k,false)):=
 fy (by unfold f8;rw[cO h,if_neg hs];rfl)
theorem pQ {l:List LTok} {k:Nat} {t:LTok} (h:l[k]? =some t) (hs:t.sort=2):gN l (k,true)=(t.num,(k+1,true)):=
 dK (by unfold oM;rw[cO h,if_pos hs];rfl)
theorem zd {l:List LTok} {k:Nat} {t:LTok} (h:l[k]? =some t) (hs:t.sort≠2):gN l (k,true)=(0,(k,false)):=
 fy (by unfold oM;rw[cO h,if_neg hs];rfl)
theorem wi {l:List LTok} {k:Nat} {so:Int} {b:List UInt8} (h:ce so b l k=true):cE l so b (k,true)=(k+1,true):=by
 unfold cE;rw[dK (x:=()) (m:=k+1) (by unfold bC;rw[if_pos h])]
theorem yU {l:List LTok} {k:Nat} {so:Int} {b:List UInt8} (h:ce so b l k=false):cE l so b (k,true)=(k,false):=by
 unfold cE;rw[fy (j:=k) (by unfold bC;rw[if_neg (by rw[h];simp)])]
structure RAt (w:World) (G:Nat) (l:List LTok) (a:Option Addr) (c:Nat) (s:RS):Prop where
 bk:w.heap[G]? =some (.cells #[.slice a l.length c,I s.1,.bool s.2] 116 (0,0))
 sl:ar w a (l.flatMap bm)
 ne:¬blk a G
 le:l.length<=2000000
 lt:s.1<l.length
abbrev KR (G:Nat) (w w':World):Prop:=Keeps (fun k=>k=G) w w'
theorem ff {G:Nat} {w w':World} (n:New w w'):KR G w w':=Keeps.mono n (fun _ _ h=>h.elim)
theorem KR.trans {G:Nat} {a b c:World} (h:KR G a b) (k:KR G b c):KR G a c:=Keeps.trans h k (fun _ _ h=>h)
theorem RAt.keeps {S:Nat->Prop} {w w':World} {G:Nat} {l:List LTok} {a:Option Addr} {c:Nat} {s:RS} (h:RAt w G l a c s) (ks:Keeps S w w') (hG:¬S G) (ha:∀g,blk a g->¬S g):RAt w' G l a c s:=
 ⟨ks.heap h.bk hG,jh h.sl ks ha,h.ne,h.le,h.lt⟩
theorem RAt.new {w w':World} {G:Nat} {l:List LTok} {a:Option Addr} {c:Nat} {s:RS} (h:RAt w G l a c s) (n:New w w'):RAt w' G l a c s:=⟨Keeps.heap n h.bk (fun h=>h),h.sl.new n,h.ne,h.le,h.lt⟩
theorem RAt.cells {w:World} {G:Nat} {l:List LTok} {a:Option Addr} {c:Nat} {s:RS} (h:RAt w G l a c s):
  w.cell? ⟨G,0,none⟩=some (.slice a l.length c)∧w.cell? ⟨G,1,none⟩=some (I s.1)∧w.cell? ⟨G,2,none⟩=some (.bool s.2)∧w.frozen? ⟨G,1,none⟩=false∧w.frozen? ⟨G,2,none⟩=false∧G<w.heap.size:=by
 refine⟨?_,?_,?_,unfrozen_of_block h.bk 1,unfrozen_of_block h.bk 2,(Array.getElem?_eq_some_iff.1 h.bk).1⟩
 ·rw[cell_of_block h.bk 0];simp
 ·rw[cell_of_block h.bk 1];simp
 ·rw[cell_of_block h.bk 2];simp
theorem RAt.out0 {w:World} {G:Nat} {l:List LTok} {a:Option Addr} {c R:Nat} {s:RS} (h:RAt w G l a c s) (hR:w.heap.size<=R):¬blk a R:=by
 obtain⟨b,o,e,q,-⟩:=mo h.sl (Nat.lt_of_le_of_lt (Nat.zero_le _) h.lt);have:=World.block_lt_of_cell? w _ q;rintro⟨x,hx,rfl⟩;rw[e] at hx;cases hx
 simp only at this hR;omega
theorem RAt.set1 {w:World} {G:Nat} {l:List LTok} {a:Option Addr} {c:Nat} {s:RS} (h:RAt w G l a c s) (j:Nat) (hj:j<l.length):RAt (w.setCell ⟨G,1,none⟩ (I j)) G l a c (j,s.2)∧KR G w (w.setCell ⟨G,1,none⟩ (I j)):=by
 have ks:KR G w (w.setCell ⟨G,1,none⟩ (I j)):=Keeps.setCell w _ _ rfl;refine⟨⟨?_,jh h.sl ks (fun g hg e=>h.ne (e▸hg)),h.ne,h.le,hj⟩,ks⟩;rw[block_setCell h.bk];simp
theorem RAt.set2 {w:World} {G:Nat} {l:List LTok} {a:Option Addr} {c:Nat} {s:RS} (h:RAt w G l a c s) (b:Bool):RAt (w.setCell ⟨G,2,none⟩ (.bool b)) G l a c (s.1,b)∧KR G w (w.setCell ⟨G,2,none⟩ (.bool b)):=by
 have ks:KR G w (w.setCell ⟨G,2,none⟩ (.bool b)):=Keeps.setCell w _ _ rfl;refine⟨⟨?_,jh h.sl ks (fun g hg e=>h.ne (e▸hg)),h.ne,h.le,h.lt⟩,ks⟩;rw[block_setCell h.bk];simp
theorem RAt.tok {w:World} {G:Nat} {l:List LTok} {a:Option Addr} {c:Nat} {s:RS} (h:RAt w G l a c s):∃t,l[s.1]? =some t∧∃b off,a=some ⟨b,off,none⟩∧w.cell? ⟨b,off+s.1*4,none⟩=some (.int .u8 t.sort)∧w.cell? ⟨b,off+s.1*4+1,none⟩=some (.string ⟨t.text.toArray⟩)∧w.cell? ⟨b,off+s.1*4+2,none⟩=some (I t.num)∧w.cell? ⟨b,off+s.1*4+3,none⟩=some (I t.at_):=
 ⟨_,List.getElem?_eq_getElem h.lt,mo h.sl h.lt⟩
theorem zK {w:World} {a:Option Addr} {l:List LTok} (h:ar w a (l.flatMap bm)) {k:Nat} {t:LTok} (ht:l[k]? =some t):∃b off,a=some ⟨b,off,none⟩∧w.cell? ⟨b,off+k*4,none⟩=some (.int .u8 t.sort)∧w.cell? ⟨b,off+k*4+1,none⟩=some (.string ⟨t.text.toArray⟩)∧w.cell? ⟨b,off+k*4+2,none⟩=some (I t.num)∧w.cell? ⟨b,off+k*4+3,none⟩=some (I t.at_):=by
 obtain⟨hk,rfl⟩:=List.getElem?_eq_some_iff.1 ht;exact mo h hk
theorem jD (w:World) (G:Nat) (l:List LTok) (a:Option Addr) (c k:Nat) (ok:Bool) (h:RAt w G l a c (k,ok)) (so:Int) (B:ByteArray):
  Calls Tryz.prog 61 #[.pointer (some ⟨G,0,none⟩),.int .u8 so,.string B] w fun e w'=>e= .returned (.bool (ce so B.data.toList l k))∧New w w':=by
 obtain⟨c0,c1,c2,-,-,hG⟩:=h.cells;obtain⟨t,ht,b1,o1,e1,q0,q1,q2,q3⟩:=h.tok;have hle:=h.le;have hlt:=h.lt;subst e1;have hb1:=World.block_lt_of_cell? _ _ q0;rw[dg ht];obtain⟨n,hn⟩:∃n,l.length=n:=⟨_,rfl⟩
 rw[hn] at c0 hle hlt;simp only at c1 c2 q0 q1 q2 q3 hlt;have hkI:(k:Int)<(n:Int):=by omega
 obtain⟨so',tx,nu,at_⟩:=t;obtain⟨T,hT⟩:∃T:ByteArray,(⟨tx.toArray⟩:ByteArray)=T:=⟨_,rfl⟩
 simp only[hT] at q0 q1 q2 q3 ⊢;have hTl:T.data.toList=tx:=by rw[<-hT]
 clear h hn ht hT;by_cases hs:so'=so
 ·have e1:(so'==so)=true:=by simpa using hs
  by_cases htx:T=B
  ·have hx:decide (so'=so∧tx=B.data.toList)=true:=decide_eq_true ⟨hs,by rw[<-hTl,htx]⟩;rw[hx];subst htx hs;clear hx hTl;go_enter Tryz.func61,Tryz.ntmps61;go_wp2_with fail;go_quiet (fail)
   go_wp2_with fail;(try go_ret)
   exact⟨by simp,(New.refl w).drewN _⟩
  ·have hx:decide (so'=so∧tx=B.data.toList)=false:=decide_eq_false (fun h=>htx (by
    apply ByteArray.ext;apply Array.toList_inj.1;rw[hTl];exact h.2))
   rw[hx];have e2:(T.toList==B.toList)=false:=by
    rw[beq_eq_false_iff_ne];intro h;apply htx;apply ByteArray.ext;apply Array.toList_inj.1
    rwa [ByteArray.toList_eq,ByteArray.toList_eq] at h
   subst hs;clear hx hTl htx;go_enter Tryz.func61,Tryz.ntmps61;go_wp2_with fail;go_quiet (fail)
   go_wp2_with fail;(try go_ret)
   exact⟨by first|rfl|simpa using e2|simp,(New.refl w).drewN _⟩
 ·have hx:decide (so'=so∧tx=B.data.toList)=false:=decide_eq_false (fun h=>hs h.1);rw[hx];have e1:(so'==so)=false:=by simpa using hs
  clear hx hs hTl;go_enter Tryz.func61,Tryz.ntmps61;go_wp2_with fail;go_quiet (fail)
  go_wp2_with fail;(try go_ret)
  exact⟨by simp,(New.refl w).drewN _⟩
theorem eA (w:World) (G:Nat) (l:List LTok) (a:Option Addr) (c:Nat) (s:RS) (he:dT l) (h:RAt w G l a c s) (so:Int) (hso:so≠0) (B:ByteArray) (b:List UInt8) (hB:B.data.toList=b):
  Calls Tryz.prog 59 #[.pointer (some ⟨G,0,none⟩),.int .u8 so,.string B] w fun e w'=>e= .returned (.tuple #[])∧RAt w' G l a c (cE l so b s)∧KR G w w':=by
 obtain⟨k,ok⟩:=s;obtain⟨c0,c1,c2,f1,f2,hG⟩:=h.cells;have hle:=h.le;have hlt:=h.lt;have H:=Lib.hid h;cases ok with
 |false=>
  have hm:cE l so b (k,false)=(k,false):=rfl;rw[hm];clear h hm hB;go_enter Tryz.func59,Tryz.ntmps59;go_wp2_with fail;(first|go_end0|refine bodyPost_ret (results_none (by kernel_rfl) _ _ _) rfl ?_|skip)
  exact⟨rfl,(H.out.set2 false).1,(H.out.set2 false).2⟩
 |true=>
  have hi:=jD w G l a c k true h so B;rw[hB] at hi;cases hl:ce so b l k with
  |true=>
   rw[hl] at hi;have hm:cE l so b (k,true)=(k+1,true):=wi hl;rw[hm];have hk2:k+1<l.length:=(he.must (m:=k+1) (u:=()) (so:=so) (b:=b) (by unfold bC;rw[if_pos hl]) hso).1;have HK2:=Lib.hid hk2;clear h hm hB hl hk2;simp only at hlt;go_enter Tryz.func59,Tryz.ntmps59;go_wp2_with fail;refine hi.mono ?_;rintro e w1 ⟨rfl,n1⟩;have H1:=H.out.new n1;obtain⟨d0,d1,d2,g1,g2,hG1⟩:=H1.cells;have HH:=Lib.hid (H1.set1 (k+1) HK2.out);have N1:=Lib.hid n1;clear H1 c0 c1 c2 f1 f2 hG hi n1;go_wp2_with fail;(first|go_end0|refine bodyPost_ret (results_none (by kernel_rfl) _ _ _) rfl ?_|skip)
   exact⟨rfl,HH.out.1,(ff N1.out).trans HH.out.2⟩
  |false=>
   rw[hl] at hi;have hm:cE l so b (k,true)=(k,false):=yU hl;rw[hm];clear h hm hB hl;go_enter Tryz.func59,Tryz.ntmps59;go_wp2_with fail;refine hi.mono ?_;rintro e w1 ⟨rfl,n1⟩;have H1:=H.out.new n1;obtain⟨d0,d1,d2,g1,g2,hG1⟩:=H1.cells;have HH:=Lib.hid (H1.set2 false);have N1:=Lib.hid n1;clear H1 c0 c1 c2 f1 f2 hG hi n1;go_wp2_with fail;(first|go_end0|refine bodyPost_ret (results_none (by kernel_rfl) _ _ _) rfl ?_|skip)
   exact⟨rfl,HH.out.1,(ff N1.out).trans HH.out.2⟩
theorem gV (w:World) (G:Nat) (l:List LTok) (a:Option Addr) (c:Nat) (s:RS) (he:dT l) (h:RAt w G l a c s):
  Calls Tryz.prog 60 #[.pointer (some ⟨G,0,none⟩)] w fun e w'=>e= .returned (.string ⟨(cq l s).1.toArray⟩)∧RAt w' G l a c (cq l s).2∧KR G w w':=by
 obtain⟨k,ok⟩:=s;obtain⟨c0,c1,c2,f1,f2,hG⟩:=h.cells;obtain⟨t,ht,b1,o1,e1,q0,q1,q2,q3⟩:=h.tok;have hle:=h.le;have hlt:=h.lt;subst e1;have hb1:=World.block_lt_of_cell? _ _ q0;have H:=Lib.hid h;have HE:=Lib.hid he;cases ok with
 |false=>
  have hm:cq l (k,false)=([],(k,false)):=rfl;rw[hm];clear h hm ht;go_enter Tryz.func60,Tryz.ntmps60;go_wp2_with fail;go_quiet (fail)
  have hn:=H.out.new ((New.refl w).drewN nq);have HH:=Lib.hid (hn.set2 false);clear hn;go_wp2_with fail;(try go_ret)
  exact⟨rfl,HH.out.1,(ff ((New.refl w).drewN nq)).trans HH.out.2⟩
 |true=>
  by_cases hs:t.sort=1
  ·have hm:=xd ht hs;rw[hm];have hk2:k+1<l.length:=HE.out.next ht (by omega);have HK2:=Lib.hid hk2;obtain⟨n,hn⟩:∃n,l.length=n:=⟨_,rfl⟩
   rw[hn] at c0 hle hlt;have HLN:=Lib.hid hn;have hkI:(k:Int)<(n:Int):=by simp only at hlt;omega
   have w1':IntKind.i64.wrap (((k+1:Nat):Int)-1)=(k:Int):=by rw[IntWalk.i64_in _ (by simp only at hlt;omega)];omega
   obtain⟨so',tx,nu,at_⟩:=t;obtain⟨T,hT⟩:∃T:ByteArray,(⟨tx.toArray⟩:ByteArray)=T:=⟨_,rfl⟩
   simp only[hT] at q0 q1 q2 q3 ⊢;simp only at hs c1 c2 q0 q1 q2 q3 hlt;rw[hs] at q0;have DB:((k+1:Nat):Int)<=(n:Int):=by omega
   have HTK:=Lib.hid ht;have HTT:=Lib.hid hT;clear h hm ht hT hs hk2 hn he;go_enter Tryz.func60,Tryz.ntmps60;go_wp2_with fail;go_quiet (fail)
   have hn:=H.out.new ((New.refl w).drewN nq);have ND:=Lib.hid ((New.refl w).drewN nq);have hh:=hn.set1 (k+1) HK2.out;rw[show((k+1:Nat):Int)=(k:Int)+1 by omega] at hh;have HH:=Lib.hid hh;clear hn hh;go_wp2_with fail;go_upto_region 3 with(fail)
   clear c0 c1 c2 f1 f2 hG q0 q1 q2 q3 hb1;generalize((w.drewN nq).setCell ⟨G,1,none⟩ (I ((k:Int)+1)))=w2 at HH ⊢;obtain⟨c0,c1,c2,f1,f2,hG⟩:=HH.out.1.cells;rw[HLN.out] at c0;simp only at c1 c2;obtain⟨b1',o1',e1',q0,q1,q2,q3⟩:=zK HH.out.1.sl HTK.out;cases e1'
   simp only[HTT.out] at q0 q1 q2 q3;have hb1:=World.block_lt_of_cell? _ _ q0;go_quiet (fail)
   go_wp2_with fail;(try go_ret)
   exact⟨rfl,HH.out.1.new ((New.refl _).drewN _),((ff ND.out).trans HH.out.2).trans (ff ((New.refl _).drewN _))⟩
  ·have hm:=zM ht hs;rw[hm];obtain⟨n,hn⟩:∃n,l.length=n:=⟨_,rfl⟩
   rw[hn] at c0 hle hlt;have hkI:(k:Int)<(n:Int):=by simp only at hlt;omega
   obtain⟨so',tx,nu,at_⟩:=t;obtain⟨T,hT⟩:∃T:ByteArray,(⟨tx.toArray⟩:ByteArray)=T:=⟨_,rfl⟩
   simp only[hT] at q0 q1 q2 q3;simp only at hs c1 c2 q0 q1 q2 q3 hlt;have e1:(so'==1)=false:=by simpa using hs
   clear h hm ht hT hs hn he;go_enter Tryz.func60,Tryz.ntmps60;go_wp2_with fail;go_quiet (fail)
   have hn:=H.out.new ((New.refl w).drewN nq);have HH:=Lib.hid (hn.set2 false);clear hn;go_wp2_with fail;(try go_ret)
   exact⟨rfl,HH.out.1,(ff ((New.refl w).drewN nq)).trans HH.out.2⟩
theorem j4 (w:World) (G:Nat) (l:List LTok) (a:Option Addr) (c:Nat) (s:RS) (he:dT l) (h:RAt w G l a c s):
  Calls Tryz.prog 99 #[.pointer (some ⟨G,0,none⟩)] w fun e w'=>e= .returned (I (gN l s).1)∧RAt w' G l a c (gN l s).2∧KR G w w':=by
 obtain⟨k,ok⟩:=s;obtain⟨c0,c1,c2,f1,f2,hG⟩:=h.cells;obtain⟨t,ht,b1,o1,e1,q0,q1,q2,q3⟩:=h.tok;have hle:=h.le;have hlt:=h.lt;subst e1;have hb1:=World.block_lt_of_cell? _ _ q0;have H:=Lib.hid h;have HE:=Lib.hid he;cases ok with
 |false=>
  have hm:gN l (k,false)=(0,(k,false)):=rfl;rw[hm];clear h hm ht;go_enter Tryz.func99,Tryz.ntmps99;go_wp2_with fail;go_quiet (fail)
  have hn:=H.out.new ((New.refl w).drewN nq);have HH:=Lib.hid (hn.set2 false);clear hn;go_wp2_with fail;(try go_ret)
  exact⟨rfl,HH.out.1,(ff ((New.refl w).drewN nq)).trans HH.out.2⟩
 |true=>
  by_cases hs:t.sort=2
  ·have hm:=pQ ht hs;rw[hm];have hk2:k+1<l.length:=HE.out.next ht (by omega);have HK2:=Lib.hid hk2;obtain⟨n,hn⟩:∃n,l.length=n:=⟨_,rfl⟩
   rw[hn] at c0 hle hlt;have HLN:=Lib.hid hn;have hkI:(k:Int)<(n:Int):=by simp only at hlt;omega
   have w1':IntKind.i64.wrap (((k+1:Nat):Int)-1)=(k:Int):=by rw[IntWalk.i64_in _ (by simp only at hlt;omega)];omega
   obtain⟨so',tx,nu,at_⟩:=t;obtain⟨T,hT⟩:∃T:ByteArray,(⟨tx.toArray⟩:ByteArray)=T:=⟨_,rfl⟩
   simp only[hT] at q0 q1 q2 q3 ⊢;simp only at hs c1 c2 q0 q1 q2 q3 hlt;rw[hs] at q0;have DB:((k+1:Nat):Int)<=(n:Int):=by omega
   have HTK:=Lib.hid ht;have HTT:=Lib.hid hT;clear h hm ht hT hs hk2 hn he;go_enter Tryz.func99,Tryz.ntmps99;go_wp2_with fail;go_quiet (fail)
   have hn:=H.out.new ((New.refl w).drewN nq);have ND:=Lib.hid ((New.refl w).drewN nq);have hh:=hn.set1 (k+1) HK2.out;rw[show((k+1:Nat):Int)=(k:Int)+1 by omega] at hh;have HH:=Lib.hid hh;clear hn hh;go_wp2_with fail;go_upto_region 3 with(fail)
   clear c0 c1 c2 f1 f2 hG q0 q1 q2 q3 hb1;generalize((w.drewN nq).setCell ⟨G,1,none⟩ (I ((k:Int)+1)))=w2 at HH ⊢;obtain⟨c0,c1,c2,f1,f2,hG⟩:=HH.out.1.cells;rw[HLN.out] at c0;simp only at c1 c2;obtain⟨b1',o1',e1',q0,q1,q2,q3⟩:=zK HH.out.1.sl HTK.out;cases e1'
   simp only[HTT.out] at q0 q1 q2 q3;have hb1:=World.block_lt_of_cell? _ _ q0;go_quiet (fail)
   go_wp2_with fail;(try go_ret)
   exact⟨rfl,HH.out.1.new ((New.refl _).drewN _),((ff ND.out).trans HH.out.2).trans (ff ((New.refl _).drewN _))⟩
  ·have hm:=zd ht hs;rw[hm];obtain⟨n,hn⟩:∃n,l.length=n:=⟨_,rfl⟩
   rw[hn] at c0 hle hlt;have hkI:(k:Int)<(n:Int):=by simp only at hlt;omega
   obtain⟨so',tx,nu,at_⟩:=t;obtain⟨T,hT⟩:∃T:ByteArray,(⟨tx.toArray⟩:ByteArray)=T:=⟨_,rfl⟩
   simp only[hT] at q0 q1 q2 q3;simp only at hs c1 c2 q0 q1 q2 q3 hlt;have e1:(so'==2)=false:=by simpa using hs
   clear h hm ht hT hs hn he;go_enter Tryz.func99,Tryz.ntmps99;go_wp2_with fail;go_quiet (fail)
   have hn:=H.out.new ((New.refl w).drewN nq);have HH:=Lib.hid (hn.set2 false);clear hn;go_wp2_with fail;(try go_ret)
   exact⟨rfl,HH.out.1,(ff ((New.refl w).drewN nq)).trans HH.out.2⟩
theorem iI (l:List LTok) (k:Nat):jc l (k,true)=(cQ l k,(k+(cQ l k).length,true)):=dK rfl
theorem RAt.old {w:World} {G:Nat} {l:List LTok} {a:Option Addr} {c:Nat} {s:RS} (h:RAt w G l a c s) {g:Nat} (hg:blk a g):g<w.heap.size:=by
 rcases Nat.lt_or_ge g w.heap.size with h1|h1
 ·exact h1
 ·exact absurd hg (h.out0 h1)
theorem qh (w:World) (G:Nat) (l:List LTok) (a:Option Addr) (c:Nat) (s:RS) (he:dT l) (h:RAt w G l a c s):
  Calls Tryz.prog 97 #[.pointer (some ⟨G,0,none⟩)] w fun e w'=>∃ao co,e= .returned (.slice ao (jc l s).1.length co)∧bc w' w.heap.size ao co (jc l s).1∧RAt w' G l a c (jc l s).2∧KR G w w':=by
 obtain⟨k,ok⟩:=s;obtain⟨i0,hi,hz0,hz1,hz2⟩:=info_parts Tryz.infoInt;have hGl:=h.cells.2.2.2.2.2;have hle:=h.le;have hlt:=h.lt;have H:=Lib.hid h;cases ok with
 |false=>
  have hm:jc l (k,false)=([],(k,false)):=rfl;rw[hm];clear h hm;go_enter Tryz.func97,Tryz.ntmps97;go_wp2_with fail;go_loopw [3] (fun y wr=>y= .slice none 0 0∧Hid (New w wr)) (fun y _=>0)
  case atStart=>exact⟨rfl,Lib.hid (New.refl _)⟩
  case round=>
   obtain⟨rfl,HN⟩:=hrel;have hr:=H.out.new HN.out;obtain⟨c0,c1,c2,f1,f2,hG⟩:=hr.cells;simp only at c1 c2;clear hr;go_wp2_with fail;go_quiet (fail)
   go_wp2_with fail;(try go_ret)
   exact⟨none,0,rfl,bc.nil _ _,H.out.new (HN.out.trans ((New.refl _).drewN _)),ff (HN.out.trans ((New.refl _).drewN _))⟩
 |true=>
  rw[iI];obtain⟨L,hL⟩:∃L,cQ l k=L:=⟨_,rfl⟩
  rw[hL];have HL:=Lib.hid hL;obtain⟨N,hN⟩:∃N,L.length=N:=⟨_,rfl⟩
  have HN0:=Lib.hid hN;have kO:w.ownsRow w.heap.size 3 1 (.slice none 0 0) 0 []:=World.ownsRow_nil _ _ _ _;clear h hL;go_enter Tryz.func97,Tryz.ntmps97;go_wp2_with fail;go_loopw [3] (fun y wr=>∃(acc:List Int) (nn:Nat) (ao:Option Addr) (co:Nat),y= .slice ao nn co∧Hid (acc.length=nn)∧k+nn<l.length∧Hid (acc++cQ l (k+nn)=L)∧Hid (wr.ownsRow w.heap.size 3 1 (.slice ao nn co) nn (Is acc))∧Hid (RAt wr G l a c (k+nn,true))∧Hid (KR G w wr)) (fun y _=>l.length-uZ y)
  case atStart=>exact⟨[],0,none,0,rfl,Lib.hid rfl,hlt,Lib.hid (by rw[<-HL.out];rfl),Lib.hid kO,H,Lib.hid (Keeps.refl _ w)⟩
  case round=>
   clear kO;obtain⟨acc,nn,ao,co,rfl,HA,hk',HE,HO,HP,HK⟩:=hrel;obtain⟨c0,c1,c2,f1,f2,hG⟩:=HP.out.cells;obtain⟨t,ht,b1,o1,e1,q0,q1,q2,q3⟩:=HP.out.tok;subst e1;have hb1:=World.block_lt_of_cell? _ _ q0;simp only at ht c1 c2 q0 q1 q2 q3;have hsm:=eM ht;obtain⟨n,hn⟩:∃n,l.length=n:=⟨_,rfl⟩
   rw[hn] at c0 hle hk';have HLN:=Lib.hid hn;have hkI:((k+nn:Nat):Int)<(n:Int):=by omega
   obtain⟨so',tx,nu,at_⟩:=t;obtain⟨T,hT⟩:∃T:ByteArray,(⟨tx.toArray⟩:ByteArray)=T:=⟨_,rfl⟩
   simp only[hT] at q0 q1 q2 q3 hsm;have HTK:=Lib.hid ht;by_cases hs:so'=2
   ·subst hs;rw[if_pos rfl] at hsm;have hm:=pQ (l:=l) ht rfl;have hnm:=fun W (n:New wr W)=>j4 W G l _ c (k+nn,true) he (HP.out.new n)
    rw[hm] at hnm;simp only at hnm;have hk2:k+nn+1<l.length:=he.next ht (by simp);have HSM:=Lib.hid hsm;have Dc:=Lib.hid hk2;clear hsm hm hT ht hn hk2;go_wp2_with fail;go_quiet (fail)
    obtain⟨Wd,hWd⟩:∃W,W=wr.drewN nq:=⟨_,rfl⟩
    have nd:New wr Wd:=by rw[hWd];exact(New.refl _).drewN _
    rw[<-hWd];clear hWd;go_wp2_with fail;refine(hnm _ nd).mono ?_;rintro e w2 ⟨rfl,H2,k2⟩;have kk:KR G wr w2:=(ff nd).trans k2;have ho2:=kk.owns HO.out (fun g hg e=>by have:=(ai HO.out (aM hg)).1;omega);have na:New w2 (w2.alloc (.cells #[I nu] 3)):=(New.refl _).alloc _;have hz:w.heap.size<=w2.heap.size:=(HK.out.trans kk).size;have HK2:=Lib.hid (HK.out.trans kk);have H2':=Lib.hid H2;have lU:∀u∈[I nu],u.oneCell'=true:=by intro u hu;simp only[List.mem_cons,List.not_mem_nil,or_false] at hu;rcases hu with rfl;rfl
    have ho3:=na.owns ho2;clear hnm nd k2 H2 kk ho2 c0 c1 c2 f1 f2 hG q0 q1 q2 q3 hb1;go_wp2_with (at_builtin;refine aR rfl _ _ 61 rfl w.heap.size 3 i0 (.int .i64 0) 1 8 Tryz.underlying61 hi hz0 hz1 hz2 rfl (by decide) ao nn co (Is acc) rfl ho3 _ 1 1 [I nu] rfl rfl (ar.lit _ _ _) lU (by unfold maxLen;omega) (by omega) (Nat.le_trans hz na.size) ?_);intro a3 c3 w3 rO hk3 _ _;have hob:∀g,blk ao g->w.heap.size<=g:=fun g hg=>(ai ho3 hg).1
    have H3:RAt w3 G l _ c (k+nn+1,true):=(H2'.out.new na).keeps hk3 (fun hg=>by have:=hob _ hg;omega) (fun g hg hg2=>by have h1:=H.out.old hg;have h2:=hob _ hg2;omega);have HK3:Hid (KR G w w3):=Lib.hid (Keeps.trans (HK2.out.trans (ff na)) hk3 (fun i hi hx=>by have:=hob _ hx;omega));have HO3:Hid (w3.ownsRow w.heap.size 3 1 (.slice a3 (nn+1) c3) (nn+1) (Is (acc++[nu]))):=Lib.hid (by rw[show Is (acc++[nu])=Is acc++[I nu] by simp[Is]];exact rO);have HE3:Hid ((acc++[nu])++cQ l (k+(nn+1))=L):=Lib.hid (by rw[<-HE.out,HSM.out];simp[Nat.add_assoc]);have HA3:Hid ((acc++[nu]).length=nn+1):=Lib.hid (by rw[List.length_append,HA.out];rfl);have HP3:=Lib.hid H3;clear rO hk3 ho3 H3;go_wp2_with fail;go_roundw
    case rel=>exact⟨acc++[nu],nn+1,a3,c3,rfl,HA3,Dc.out,HE3,HO3,HP3,HK3⟩
    case measure=>simp only[uZ];have:=HLN.out;omega
   ·rw[if_neg hs] at hsm;have d1:(so'==2)=false:=by simpa using hs
    have HSM:=Lib.hid hsm;clear hsm hs hT ht hn;go_wp2_with fail;go_quiet (fail)
    obtain⟨Wd,hWd⟩:∃W,W=wr.drewN nq:=⟨_,rfl⟩
    have nd:New wr Wd:=by rw[hWd];exact(New.refl _).drewN _
    rw[<-hWd];clear hWd;have eL:acc=L:=by have:=HE.out;rw[HSM.out,List.append_nil] at this;exact this
    have eN:nn=N:=by rw[<-HA.out,eL,HN0.out]
    subst eN eL;have dj:bc Wd w.heap.size ao co acc:=by have:=nd.owns HO.out;unfold bc;rw[HA.out];exact this
    have H1:=HP.out.new nd;have k1:=HK.out.trans (ff nd);have iU:=Lib.hid (And.intro dj (And.intro H1 k1));clear dj H1 k1;go_wp2_with fail;(try go_ret)
    rw[HN0.out];exact⟨ao,co,rfl,iU.out.1,iU.out.2.1,iU.out.2.2⟩
structure LocS (w:World) (G P R:Nat) (l:List LTok) (a:Option Addr) (c:Nat) (T:TypeId) (zs:Array Value) (s:RS) (cs:Array Value) (w':World):Prop where
 r:RAt w' G l a c s
 k:KR G w w'
 bp:w'.heap[P]? =some (.cells cs T (0,0))
 bR:w'.heap[R]? =some (.cells zs T (0,0))
 hp:w.heap.size<=P
 hR:w.heap.size<=R
 ne:P≠R
 np:¬blk a P
 nR:¬blk a R
 hG:G<w.heap.size
section
variable {w:World} {G P R:Nat} {l:List LTok} {a:Option Addr} {c:Nat} {T:TypeId} {zs:Array Value} {s:RS} {cs:Array Value} {w1:World} (h:LocS w G P R l a c T zs s cs w1)
include h
theorem LocS.call {w2:World} {s':RS} (r':RAt w2 G l a c s') (k':KR G w1 w2):LocS w G P R l a c T zs s' cs w2:=
 ⟨r',h.k.trans k',k'.heap h.bp (by have:=h.hp;have:=h.hG;omega),k'.heap h.bR (by have:=h.hR;have:=h.hG;omega),h.hp,h.hR,h.ne,h.np,h.nR,h.hG⟩
theorem LocS.new {w2:World} (n:New w1 w2):LocS w G P R l a c T zs s cs w2:=h.call (h.r.new n) (ff n)
theorem LocS.set (i:Nat) (u:Value):LocS w G P R l a c T zs s (cs.setIfInBounds i u) (w1.setCell ⟨P,i,none⟩ u):=by
 have ks:Keeps (fun k=>k=P) w1 (w1.setCell ⟨P,i,none⟩ u):=Keeps.setCell w1 _ _ rfl;have hpG:=h.hp;have hGl:=h.hG;refine⟨h.r.keeps ks (by omega) (fun g hg e=>h.np (e▸hg)),Keeps.trans h.k ks (fun i hi e=>by omega),?_,ks.heap h.bR (Ne.symm h.ne),h.hp,h.hR,h.ne,h.np,h.nR,h.hG⟩;rw[block_setCell h.bp]
theorem LocS.seto {S:Nat->Prop} {w2:World} (ks:Keeps S w1 w2) (hS:∀k,S k->w.heap.size<=k∧k≠P∧k≠R∧¬blk a k):LocS w G P R l a c T zs s cs w2:=by
 have hGl:=h.hG;refine⟨h.r.keeps ks (fun hx=>by have:=(hS _ hx).1;omega) (fun g hg hx=>(hS _ hx).2.2.2 hg),Keeps.trans h.k ks (fun i hi hx=>by have:=(hS _ hx).1;omega),ks.heap h.bp (fun hx=>(hS _ hx).2.1 rfl),ks.heap h.bR (fun hx=>(hS _ hx).2.2.1 rfl),h.hp,h.hR,h.ne,h.np,h.nR,h.hG⟩
theorem LocS.done {w2:World} (ks:Keeps (fun k=>k=R) w1 w2):RAt w2 G l a c s∧KR G w w2:=by
 have hRG:=h.hR;have hGl:=h.hG;exact⟨h.r.keeps ks (by omega) (fun g hg e=>h.nR (e▸hg)),Keeps.trans h.k ks (fun i hi e=>by omega)⟩
end
theorem pL {w:World} {G:Nat} {l:List LTok} {a:Option Addr} {c:Nat} {s:RS} (h:RAt w G l a c s) (T:TypeId) (zs:Array Value):
  LocS w G (w.heap.size+1) w.heap.size l a c T zs s zs ((w.alloc (.cells zs T)).alloc (.cells zs T)):=by
 have n1:New w (w.alloc (.cells zs T)):=(New.refl w).alloc _;have n2:New (w.alloc (.cells zs T)) ((w.alloc (.cells zs T)).alloc (.cells zs T)):=(New.refl _).alloc _;have hz:(w.alloc (.cells zs T)).heap.size=w.heap.size+1:=by simp
 refine⟨h.new (n1.trans n2),ff (n1.trans n2),?_,Keeps.heap n2 (heap_alloc_new w _) (fun h=>h),by omega,by omega,by omega,h.out0 (by omega),h.out0 (by omega),h.cells.2.2.2.2.2⟩;have:=heap_alloc_new (w.alloc (.cells zs T)) (.cells zs T)
 rwa [hz] at this
theorem jE (w:World) (G:Nat) (l:List LTok) (a:Option Addr) (c:Nat) (s:RS) (he:dT l) (h:RAt w G l a c s):
  Calls Tryz.prog 98 #[.pointer (some ⟨G,0,none⟩)] w fun e w'=>e= .returned (plV (dv l s).1)∧RAt w' G l a c (dv l s).2∧KR G w w':=by
 obtain⟨r1,hr1⟩:∃r,cq l s=r:=⟨_,rfl⟩
 obtain⟨s2,hs2⟩:∃r,cE l 3 [46] r1.2=r:=⟨_,rfl⟩
 obtain⟨r3,hr3⟩:∃r,gN l s2=r:=⟨_,rfl⟩
 have hpl:dv l s=(⟨r1.1,r3.1,atT l s.1⟩,r3.2):=by unfold dv;simp only[hr1,hs2,hr3]
 rw[hpl];obtain⟨at_,hat⟩:∃n,atT l s.1=n:=⟨_,rfl⟩
 rw[hat];have L0:=Lib.hid (pL h 103 #[.string ⟨#[]⟩,I 0,I 0]);have hw:=fun W (r:RAt W G l a c s)=>gV W G l a c s he r
 rw[hr1] at hw;have hmu:=fun W (r:RAt W G l a c r1.2)=>eA W G l a c r1.2 he r 3 (by decide) ⟨#[46]⟩ [46] rfl
 rw[hs2] at hmu;have hnu:=fun W (r:RAt W G l a c s2)=>j4 W G l a c s2 he r
 rw[hr3] at hnu;clear hr1 hs2 hr3 hpl;obtain⟨c0,c1,c2,f1,f2,hG⟩:=L0.out.r.cells;obtain⟨t,ht,b1,o1,e1,q0,q1,q2,q3⟩:=L0.out.r.tok;have hq3:at_=t.at_:=by rw[<-hat];unfold atT;rw[ht];rfl
 rw[<-hq3] at q3;have hle:=h.le;have hlt:=h.lt;have hkI:(s.1:Int)<(l.length:Int):=by omega
 obtain⟨n,hn⟩:∃n,l.length=n:=⟨_,rfl⟩
 rw[hn] at c0 hle hlt hkI;obtain⟨k,hk⟩:∃k,s.1=k:=⟨_,rfl⟩
 rw[hk] at c1 q0 q1 q2 q3 hlt hkI;subst e1;have hb1:=World.block_lt_of_cell? _ _ q0;obtain⟨p0,p1,p2,pf,hPl⟩:=gK L0.out.bp;have pf2:=pf 2;obtain⟨r1n,s1⟩:=r1;obtain⟨r3n,s3⟩:=r3;simp only at hw hmu hnu;obtain⟨NM,hNM⟩:∃S:ByteArray,(⟨r1n.toArray⟩:ByteArray)=S:=⟨_,rfl⟩
 rw[hNM] at hw;have HNM:=Lib.hid hNM;clear h hat ht hq3 q0 q1 q2 hn hk pf c2 f1 f2 hNM;go_enter Tryz.func98,Tryz.ntmps98;go_wp2_with fail;generalize((w.alloc (.cells #[.string ⟨#[]⟩,I 0,I 0] 103)).alloc (.cells #[.string ⟨#[]⟩,I 0,I 0] 103))=W at*;have hS0:(fun w':World=>w'.cell? ⟨G,0,none⟩=some (.slice (some ⟨b1,o1,none⟩) n c)∧w'.cell? ⟨G,1,none⟩=some (I (k:Int))∧w'.cell? ⟨b1,o1+k*4+3,none⟩=some (I (at_:Int))∧G<w'.heap.size∧b1<w'.heap.size∧w.heap.size+1<w'.heap.size) W.drew:=⟨c0,c1,q3,hG,hb1,hPl⟩
 refine aj (fun w':World=>w'.cell? ⟨G,0,none⟩=some (.slice (some ⟨b1,o1,none⟩) n c)∧w'.cell? ⟨G,1,none⟩=some (I (k:Int))∧w'.cell? ⟨b1,o1+k*4+3,none⟩=some (I (at_:Int))∧G<w'.heap.size∧b1<w'.heap.size∧w.heap.size+1<w'.heap.size) [12] (by kernel_rfl) hS0 ?_;refine ae 0 hS0 ?_;refine ae 1 hS0 ?_;refine ae 2 hS0 ?_;refine ae 3 hS0 ?_;refine ae 4 hS0 ?_;refine ae 5 hS0 ?_;refine ae 6 hS0 ?_;refine ae 7 hS0 ?_;refine ae 8 hS0 ?_;refine ae 9 hS0 ?_;refine ae 10 hS0 ?_;refine ae 11 hS0 ?_;refine ag 12 ?_;intro K hK;(try simp only[Act.put,sLs])
 go_simp;have L1:=Lib.hid (((L0.out.new ((New.refl W).drew))).set 2 (I (at_:Int)));refine hK _ _ (fun hx=>by cases hx) ?_;clear hK K hS0;refine av (by kernel_rfl) ?_;(try simp only[Act.put,sLs])
 (try simp only[Exit.then])
 clear c0 c1 q3 hG hb1 p0 p1 p2 pf2 hPl L0;have hh:=hw _ L1.out.r;go_wp2_with fail;refine hh.mono ?_;rintro e w2 ⟨rfl,H2,k2⟩;have L2:=Lib.hid (L1.out.call H2 k2);clear hh H2 k2 L1;obtain⟨p0,p1,p2,pf,hPl⟩:=gK L2.out.bp;have pf0:=pf 0;have L3:=Lib.hid (L2.out.set 0 (.string NM));have hh:=hmu _ L3.out.r;clear pf L2;go_wp2_with fail;refine hh.mono ?_;rintro e w4 ⟨rfl,H2,k2⟩;have L4:=Lib.hid (L3.out.call H2 k2);have hh2:=hnu _ L4.out.r;clear hh H2 k2 L3 p0 p1 p2 pf0 hPl;go_wp2_with fail;refine hh2.mono ?_;rintro e w5 ⟨rfl,H2,k2⟩;have L5:=Lib.hid (L4.out.call H2 k2);clear hh2 H2 k2 L4;obtain⟨p0,p1,p2,pf,hPl⟩:=gK L5.out.bp;have pf1:=pf 1;have L6:=Lib.hid (L5.out.set 1 (I r3n));clear pf L5;go_upto_region 6 with(fail)
 have L7:Hid (LocS w G (w.heap.size+1) w.heap.size l (some ⟨b1,o1,none⟩) c 103 #[.string ⟨#[]⟩,I 0,I 0] s3 #[.string NM,I r3n,I (at_:Int)] (w5.setCell ⟨w.heap.size+1,1,none⟩ (I r3n))):=Lib.hid (by have:=L6.out;simpa using this);generalize(w5.setCell ⟨w.heap.size+1,1,none⟩ (I r3n))=w6 at L7 ⊢;clear p0 p1 p2 pf1 hPl L6;obtain⟨p0,p1,p2,-,hPl⟩:=gK L7.out.bp;obtain⟨y0,y1,y2,pf,hRl⟩:=gK L7.out.bR;have f0:=pf 0;have f1:=pf 1;have f2:=pf 2;have hst:=zg L7.out.bR (.string NM) (I r3n) (I (at_:Int));have HD:=Lib.hid (And.intro hst.1 (L7.out.done hst.2));clear pf hst;go_wp2_with fail;have hd:=HD.out;clear HD y0 y1 y2 f0 f1 f2;generalize(((w6.setCell ⟨w.heap.size,0,none⟩ (.string NM)).setCell ⟨w.heap.size,1,none⟩ (I r3n)).setCell ⟨w.heap.size,2,none⟩ (I (at_:Int)))=Wf at hd ⊢;obtain⟨y0,y1,y2,-,-⟩:=gK hd.1;refine bodyPost_ret (v:= .agg #[.string NM,I r3n,I (at_:Int)]) (by simp[results,Tryz.results98,go_sem,y0,y1,y2]) rfl ?_;exact⟨by show Ending.returned (.agg #[.string NM,I r3n,I (at_:Int)])= .returned (.agg #[.string ⟨r1n.toArray⟩,I r3n,I (at_:Int)]);rw[HNM.out],hd.2.1,hd.2.2⟩
def ld (l:List LTok):RS->List Int×RS
 |(k,true)=>if ce 1 gE l k=true then(let r1:=gN l (k+1,true);let r2:=jc l r1.2;(r1.1::r2.1,r2.2)) else([],(k,true))
 |(k,false)=>([],(k,false))
def qw (l:List LTok) (a:Nat) (s:RS):LIt×RS:=let r1:=cq l s;let r3:=cq l (cE l 3 [61] r1.2);let r4:=jc l r3.2;(⟨1,r1.1,r3.1,r4.1,plZ,plZ,a⟩,r4.2)
def uE (l:List LTok) (a:Nat) (s:RS):LIt×RS:=let r1:=dv l s;let r3:=dv l (cE l 3 [45,62] r1.2);let r4:=ld l r3.2;(⟨2,[],[],r4.1,r1.1,r3.1,a⟩,r4.2)
def inS (l:List LTok) (a:Nat) (s:RS):LIt×RS:=let r1:=cq l s;let r3:=dv l (cE l 3 [45,62] r1.2);(⟨3,r1.1,[],[],plZ,r3.1,a⟩,r3.2)
def Aq (l:List LTok) (a:Nat) (s:RS):LIt×RS:=let r1:=dv l s;let r3:=cq l (cE l 3 [45,62] r1.2);(⟨4,r3.1,[],[],r1.1,plZ,a⟩,r3.2)
def eZ (l:List LTok) (k:Nat):LIt×RS:=
 if ce 1 fN l k=true then qw l (atT l k) (k+1,true)
 else if ce 1 ib l k=true then uE l (atT l k) (k+1,true)
 else if ce 1 inW l k=true then inS l (atT l k) (k+1,true)
 else if ce 1 mH l k=true then Aq l (atT l k) (k+1,true)
 else(⟨0,[],[],[],plZ,plZ,atT l k⟩,(k,false))
def kX (l:List LTok) (k:Nat):LIt×RS:=((eZ l k).1,cE l 3 [59] (eZ l k).2)
def Sim {α:Type} (r:α×RS):PR α->Prop
 | .good x m=>r=(x,(m,true))
 | .bad j=>r.2=(j,false)
theorem bK {l:List LTok} {k m:Nat} {so:Int} {b:List UInt8} {u:Unit} (h:bC so b l k= .good u m):cE l so b (k,true)=(m,true):=by unfold cE;rw[dK h]
theorem eT {l:List LTok} {k j:Nat} {so:Int} {b:List UInt8} (h:bC so b l k= .bad j):cE l so b (k,true)=(j,false):=by unfold cE;rw[fy h]
theorem dC {l:List LTok} {k:Nat} {so:Int} {b:List UInt8} :cE l so b (k,false)=(k,false):=rfl
theorem iy {l:List LTok} {k:Nat} :cq l (k,false)=([],(k,false)):=rfl
theorem oN {l:List LTok} {k:Nat} :gN l (k,false)=(0,(k,false)):=rfl
theorem jz {l:List LTok} {k:Nat} :jc l (k,false)=([],(k,false)):=rfl
theorem iL {l:List LTok} {k:Nat} :(dv l (k,false)).2=(k,false):=rfl
theorem lE {l:List LTok} {k:Nat} :ld l (k,false)=([],(k,false)):=rfl
theorem pd {l:List LTok} {k m:Nat} {x:List UInt8} (h:f8 l k= .good x m):cq l (k,true)=(x,(m,true)):=dK h
theorem xb {l:List LTok} {k j:Nat} (h:f8 l k= .bad j):cq l (k,true)=([],(j,false)):=fy h
theorem pZ (l:List LTok) (k:Nat):Sim (dv l (k,true)) (cM l k):=by
 unfold dv cM;cases h1:cp 1 l k with
 |bad j=>
  have e1:cq l (k,true)=([],(j,false)):=fy (by unfold f8;rw[h1];rfl);simp only[e1,dC,oN,PR.bind_bad];rfl
 |good t k1=>
  have e1:cq l (k,true)=(t.text,(k1,true)):=dK (by unfold f8;rw[h1];rfl);have ea:atT l k=t.at_:=by obtain⟨h,_,_⟩:=gq h1;unfold atT;rw[h];rfl
  cases h2:bC 3 [46] l k1 with
  |bad j=>simp only[e1,eT h2,oN,PR.bind_good,h2,PR.bind_bad];rfl
  |good u k2=>
   cases h3:cp 2 l k2 with
   |bad j=>
    have e3:gN l (k2,true)=(0,(j,false)):=fy (by unfold oM;rw[h3];rfl);simp only[e1,bK h2,e3,PR.bind_good,h2,h3,PR.bind_bad];rfl
   |good n k3=>
    have e3:gN l (k2,true)=(n.num,(k3,true)):=dK (by unfold oM;rw[h3];rfl);simp only[e1,bK h2,e3,PR.bind_good,h2,h3,ea];rfl
theorem jA {l:List LTok} {k m:Nat} {x:LPl} (h:cM l k= .good x m):dv l (k,true)=(x,(m,true)):=by have:=pZ l k;rw[h] at this;exact this
theorem kF {l:List LTok} {k j:Nat} (h:cM l k= .bad j):(dv l (k,true)).2=(j,false):=by have:=pZ l k;rw[h] at this;exact this
theorem zL (l:List LTok) (k:Nat):Sim (ld l (k,true)) (withP l k):=by
 unfold withP;show Sim (if ce 1 gE l k=true then(let r1:=gN l (k+1,true);let r2:=jc l r1.2;(r1.1::r2.1,r2.2)) else([],(k,true))) _
 by_cases hw:ce 1 gE l k=true
 ·rw[if_pos hw,if_pos hw];cases h3:cp 2 l (k+1) with
  |bad j=>
   have e3:gN l (k+1,true)=(0,(j,false)):=fy (by unfold oM;rw[h3];rfl);simp only[e3,jz,PR.bind_bad];rfl
  |good n k3=>
   have e3:gN l (k+1,true)=(n.num,(k3,true)):=dK (by unfold oM;rw[h3];rfl);simp only[e3,iI,PR.bind_good,numsP];rfl
 ·rw[if_neg hw,if_neg hw];rfl
theorem vl (l:List LTok) (a k:Nat):Sim (qw l a (k,true)) (fA a l k):=by
 unfold qw fA;cases h1:cp 1 l k with
 |bad j=>
  have e1:cq l (k,true)=([],(j,false)):=fy (by unfold f8;rw[h1];rfl);simp only[e1,dC,iy,jz,PR.bind_bad];rfl
 |good t k1=>
  have e1:cq l (k,true)=(t.text,(k1,true)):=dK (by unfold f8;rw[h1];rfl);cases h2:bC 3 [61] l k1 with
  |bad j=>simp only[e1,eT h2,iy,jz,PR.bind_good,h2,PR.bind_bad];rfl
  |good u k2=>
   cases h3:cp 1 l k2 with
   |bad j=>
    have e3:cq l (k2,true)=([],(j,false)):=fy (by unfold f8;rw[h3];rfl);simp only[e1,bK h2,e3,jz,PR.bind_good,h2,h3,PR.bind_bad];rfl
   |good n k3=>
    have e3:cq l (k2,true)=(n.text,(k3,true)):=dK (by unfold f8;rw[h3];rfl);simp only[e1,bK h2,e3,iI,numsP,PR.bind_good,h2,h3];rfl
theorem xQ (l:List LTok) (a k:Nat):Sim (uE l a (k,true)) (fE a l k):=by
 unfold uE fE;cases h1:cM l k with
 |bad j=>
  have e1:=kF h1;simp only[e1,dC,iL,lE,PR.bind_bad];rfl
 |good t k1=>
  have e1:=jA h1;cases h2:bC 3 [45,62] l k1 with
  |bad j=>simp only[e1,eT h2,iL,lE,PR.bind_good,h2,PR.bind_bad];rfl
  |good u k2=>
   cases h3:cM l k2 with
   |bad j=>
    have e3:=kF h3;simp only[e1,bK h2,e3,lE,PR.bind_good,h2,h3,PR.bind_bad];rfl
   |good n k3=>
    have e3:=jA h3;have hw:=zL l k3;cases h4:withP l k3 with
    |bad j=>
     rw[h4] at hw;have e4:(ld l (k3,true)).2=(j,false):=hw;simp only[e1,bK h2,e3,e4,PR.bind_good,h2,h3,h4,PR.bind_bad];rfl
    |good xs k4=>
     rw[h4] at hw;have e4:ld l (k3,true)=(xs,(k4,true)):=hw;simp only[e1,bK h2,e3,e4,PR.bind_good,h2,h3,h4];rfl
theorem BA (l:List LTok) (a k:Nat):Sim (inS l a (k,true)) (inP a l k):=by
 unfold inS inP;cases h1:cp 1 l k with
 |bad j=>
  have e1:cq l (k,true)=([],(j,false)):=fy (by unfold f8;rw[h1];rfl);simp only[e1,dC,iL,PR.bind_bad];rfl
 |good t k1=>
  have e1:cq l (k,true)=(t.text,(k1,true)):=dK (by unfold f8;rw[h1];rfl);cases h2:bC 3 [45,62] l k1 with
  |bad j=>simp only[e1,eT h2,iL,PR.bind_good,h2,PR.bind_bad];rfl
  |good u k2=>
   cases h3:cM l k2 with
   |bad j=>
    have e3:=kF h3;simp only[e1,bK h2,e3,PR.bind_good,h2,h3,PR.bind_bad];rfl
   |good n k3=>
    have e3:=jA h3;simp only[e1,bK h2,e3,PR.bind_good,h2,h3];rfl
theorem Ar (l:List LTok) (a k:Nat):Sim (Aq l a (k,true)) (lv a l k):=by
 unfold Aq lv;cases h1:cM l k with
 |bad j=>
  have e1:=kF h1;simp only[e1,dC,iy,PR.bind_bad];rfl
 |good t k1=>
  have e1:=jA h1;cases h2:bC 3 [45,62] l k1 with
  |bad j=>simp only[e1,eT h2,iy,PR.bind_good,h2,PR.bind_bad];rfl
  |good u k2=>
   cases h3:cp 1 l k2 with
   |bad j=>
    have e3:cq l (k2,true)=([],(j,false)):=fy (by unfold f8;rw[h3];rfl);simp only[e1,bK h2,e3,PR.bind_good,h2,h3,PR.bind_bad];rfl
   |good n k3=>
    have e3:cq l (k2,true)=(n.text,(k3,true)):=dK (by unfold f8;rw[h3];rfl);simp only[e1,bK h2,e3,PR.bind_good,h2,h3];rfl
theorem xD (l:List LTok) (k:Nat) (hk:k<l.length):Sim (eZ l k) (fZ l k):=by
 have ht:=List.getElem?_eq_getElem hk;have ea:atT l k=l[k].at_:=by unfold atT;rw[ht];rfl
 have hl:∀b,ce 1 b l k=decide (l[k].sort=1∧l[k].text=b):=fun b=>dg ht
 unfold eZ fZ;rw[ht];simp only[hl,decide_eq_true_iff,ea];split
 ·exact vl l _ _
 ·split
  ·exact xQ l _ _
  ·split
   ·exact BA l _ _
   ·split
    ·exact Ar l _ _
    ·rfl
theorem rT (l:List LTok) (k:Nat) (hk:k<l.length):Sim (kX l k) (bN l k):=by
 have hb:=xD l k hk;unfold kX bN;cases h1:fZ l k with
 |bad j=>
  rw[h1] at hb;have e1:(eZ l k).2=(j,false):=hb;simp only[e1,dC,PR.bind_bad];rfl
 |good x k1=>
  rw[h1] at hb;have e1:eZ l k=(x,(k1,true)):=hb;cases h2:bC 3 [59] l k1 with
  |bad j=>simp only[e1,eT h2,PR.bind_good,h2,PR.bind_bad];rfl
  |good u k2=>simp only[e1,bK h2,PR.bind_good,h2];rfl
theorem Dl (l:List LTok) (s:RS) (x:List Int) (s':RS) (h:jc l s=(x,s')) {m:Nat} (hm:x.length=m) (hl:l.length<=2000000):m<=2000000:=by
 obtain⟨k,ok⟩:=s;cases ok with
 |false=>cases h;subst hm;simp
 |true=>
  rw[iI] at h;cases h
  subst hm;have:=wt (l.drop k);unfold cQ;simp only[List.length_drop] at this;omega
theorem BJ {w0 w w':World} {ao:Option Addr} {co:Nat} {xs:List Int} (h:bc w' w.heap.size ao co xs) (hs:w0.heap.size<=w.heap.size):bc w' w0.heap.size ao co xs:=by
 unfold bc at h ⊢;refine⟨h.1,h.2.imp id (fun⟨g,cap,cur,e1,hb,rest⟩=>⟨g,cap,cur,e1,Nat.le_trans hs hb,rest⟩)⟩
theorem As {w1 w2:World} {B G:Nat} {ao:Option Addr} {n co:Nat} {xs:List Value} (h:w1.ownsRow B 3 1 (.slice ao n co) n xs) (k:KR G w1 w2) (hG:G<B):w2.ownsRow B 3 1 (.slice ao n co) n xs:=
 k.owns h (fun g hg e=>by have:=(ai h (aM hg)).1;omega)
def AN (w:World) (G:Nat) (l:List LTok) (a:Option Addr) (c:Nat) (r:LIt×RS) (e:Ending) (w':World):Prop:=∃ao co,e= .returned (.agg (itA (r.1.mem ao co)))∧bc w' w.heap.size ao co r.1.xs∧RAt w' G l a c r.2∧KR G w w'
section
variable {w:World} {G P R:Nat} {l:List LTok} {a:Option Addr} {c:Nat} {zs:Array Value} {s:RS} {cs:Array Value} {w1:World}
theorem BI {w w1 w2:World} {G:Nat} {ao:Option Addr} {co:Nat} {xs:List Int} (h:bc w1 w.heap.size ao co xs) (k:KR G w1 w2) (hG:G<w.heap.size):bc w2 w.heap.size ao co xs:=by
 unfold bc at h ⊢;exact k.owns h (fun g hg e=>by have:=(ai h (aM hg)).1;omega)
theorem LocS.app (h:LocS w G P R l a c 105 zs s cs w1) {a1:Option Addr} {n1 c1:Nat} {xs:List Value} (ho:w1.ownsRow w.heap.size 3 1 (.slice a1 n1 c1) n1 xs) (hold:∀g,blk a g->g<w.heap.size) {w2:World} (hk:Keeps (blk a1) w1 w2):LocS w G P R l a c 105 zs s cs w2:=
 h.seto hk (fun k hx=>by
  obtain⟨cur,hc⟩:=aL ho (aV hx);have h1:=(ai ho hx).1;refine⟨h1,?_,?_,fun hb=>?_⟩
  ·rintro rfl;rw[h.bp] at hc;simp at hc
  ·rintro rfl;rw[h.bR] at hc;simp at hc
  ·have:=hold k hb;omega)
theorem qQ {w w1:World} {ao:Option Addr} {co P:Nat} {xs:List Int} {cs:Array Value} (h:bc w1 w.heap.size ao co xs) (hb:w1.heap[P]? =some (.cells cs 105 (0,0))) {w2:World} (k:Keeps (fun b=>b=P) w1 w2):bc w2 w.heap.size ao co xs:=by
 unfold bc at h ⊢;exact al h k (fun g hg=>⟨_,_,_,hg▸hb,by decide⟩)
end
theorem wL (w:World) (G:Nat) (l:List LTok) (a:Option Addr) (c k:Nat) (he:dT l) (h:RAt w G l a c (k,true)):
  Calls Tryz.prog 62 #[.pointer (some ⟨G,0,none⟩)] w (AN w G l a c (kX l k)):=by
 obtain⟨i0,hi,hz0,hz1,hz2⟩:=info_parts Tryz.infoInt;have L0:=Lib.hid (pL h 105 #[.int .u8 0,.string ⟨#[]⟩,.string ⟨#[]⟩,.slice none 0 0,.string ⟨#[]⟩,I 0,I 0,.string ⟨#[]⟩,I 0,I 0,I 0]);have hold:∀g,blk a g->g<w.heap.size:=fun g hg=>h.old hg
 have B8:=Lib.hid hold;have hGl:=h.cells.2.2.2.2.2;have HGL:=Lib.hid hGl;obtain⟨c0,c1,c2,f1,f2,hG⟩:=L0.out.r.cells;obtain⟨t,ht,b1,o1,e1,q0,q1,q2,q3⟩:=L0.out.r.tok;obtain⟨at_,hat⟩:∃n,atT l k=n:=⟨_,rfl⟩
 have hq3:at_=t.at_:=by rw[<-hat];unfold atT;rw[ht];rfl
 rw[<-hq3] at q3;have hle:=h.le;have hlt:=h.lt;simp only at hlt ht c1 c2 q0 q1 q2 q3;have hnx:∀b,ce 1 b l k=true->k+1<l.length:=fun b hb=>by
  obtain⟨u,hu,hs,_⟩:=kC hb;exact he.next hu (by omega)
 have HNX:=Lib.hid hnx;have HE:=Lib.hid he;have hkI:(k:Int)<(l.length:Int):=by omega
 obtain⟨n,hn⟩:∃n,l.length=n:=⟨_,rfl⟩
 rw[hn] at c0 hle hlt hkI;subst e1;have hb1:=World.block_lt_of_cell? _ _ q0;obtain⟨⟨p0,p1,p2,p3,p4,p5,p6,p7,p8,p9,p10⟩,pf,hPl⟩:=aF L0.out.bp;have D4:=pf 10;obtain⟨PO,hPO⟩:∃PO:Ending->World->Prop,PO=AN w G l (some ⟨b1,o1,none⟩) c (kX l k):=⟨_,rfl⟩
 rw[<-hPO];have HPO:=Lib.hid hPO;have HAT:=Lib.hid hat;have HLN:=Lib.hid hn;have hia:∀W,RAt W G l (some ⟨b1,o1,none⟩) c (k,true)->Calls Tryz.prog 61 #[.pointer (some ⟨G,0,none⟩),.int .u8 1,.string ⟨#[97,99,116,111,114]⟩] W fun e w'=>e= .returned (.bool (ce 1 fN l k))∧New W w':=fun W r=>jD W G l _ c k true r 1 ⟨#[97,99,116,111,114]⟩
 have hie:∀W,RAt W G l (some ⟨b1,o1,none⟩) c (k,true)->Calls Tryz.prog 61 #[.pointer (some ⟨G,0,none⟩),.int .u8 1,.string ⟨#[101,100,103,101]⟩] W fun e w'=>e= .returned (.bool (ce 1 ib l k))∧New W w':=fun W r=>jD W G l _ c k true r 1 ⟨#[101,100,103,101]⟩
 have hii:∀W,RAt W G l (some ⟨b1,o1,none⟩) c (k,true)->Calls Tryz.prog 61 #[.pointer (some ⟨G,0,none⟩),.int .u8 1,.string ⟨#[105,110]⟩] W fun e w'=>e= .returned (.bool (ce 1 inW l k))∧New W w':=fun W r=>jD W G l _ c k true r 1 ⟨#[105,110]⟩
 have hio:∀W,RAt W G l (some ⟨b1,o1,none⟩) c (k,true)->Calls Tryz.prog 61 #[.pointer (some ⟨G,0,none⟩),.int .u8 1,.string ⟨#[111,117,116]⟩] W fun e w'=>e= .returned (.bool (ce 1 mH l k))∧New W w':=fun W r=>jD W G l _ c k true r 1 ⟨#[111,117,116]⟩
 have CK:kX l k=((eZ l k).1,cE l 3 [59] (eZ l k).2):=rfl;have HIT:=Lib.hid CK;have HLE:Hid (l.length<=2000000):=Lib.hid (by rw[HLN.out];exact hle);clear hPO h hat ht hq3 q0 q1 q2 hn pf c2 f1 f2 hnx hold CK he;go_enter Tryz.func62,Tryz.ntmps62;go_wp2_with fail;generalize((w.alloc (.cells #[.int .u8 0,.string ⟨#[]⟩,.string ⟨#[]⟩,.slice none 0 0,.string ⟨#[]⟩,I 0,I 0,.string ⟨#[]⟩,I 0,I 0,I 0] 105)).alloc (.cells #[.int .u8 0,.string ⟨#[]⟩,.string ⟨#[]⟩,.slice none 0 0,.string ⟨#[]⟩,I 0,I 0,.string ⟨#[]⟩,I 0,I 0,I 0] 105))=W at*;have hS0:(fun w':World=>w'.cell? ⟨G,0,none⟩=some (.slice (some ⟨b1,o1,none⟩) n c)∧w'.cell? ⟨G,1,none⟩=some (I (k:Int))∧w'.cell? ⟨b1,o1+k*4+3,none⟩=some (I (at_:Int))∧G<w'.heap.size∧b1<w'.heap.size∧w.heap.size+1<w'.heap.size) W.drew:=⟨c0,c1,q3,hG,hb1,hPl⟩
 refine aj (fun w':World=>w'.cell? ⟨G,0,none⟩=some (.slice (some ⟨b1,o1,none⟩) n c)∧w'.cell? ⟨G,1,none⟩=some (I (k:Int))∧w'.cell? ⟨b1,o1+k*4+3,none⟩=some (I (at_:Int))∧G<w'.heap.size∧b1<w'.heap.size∧w.heap.size+1<w'.heap.size) [12] (by kernel_rfl) hS0 ?_;refine ae 0 hS0 ?_;refine ae 1 hS0 ?_;refine ae 2 hS0 ?_;refine ae 3 hS0 ?_;refine ae 4 hS0 ?_;refine ae 5 hS0 ?_;refine ae 6 hS0 ?_;refine ae 7 hS0 ?_;refine ae 8 hS0 ?_;refine ae 9 hS0 ?_;refine ae 10 hS0 ?_;refine ae 11 hS0 ?_;refine ag 12 ?_;intro K hK;(try simp only[Act.put,sLs])
 go_simp;have L1:Hid (LocS w G (w.heap.size+1) w.heap.size l (some ⟨b1,o1,none⟩) c 105 #[.int .u8 0,.string ⟨#[]⟩,.string ⟨#[]⟩,.slice none 0 0,.string ⟨#[]⟩,I 0,I 0,.string ⟨#[]⟩,I 0,I 0,I 0] (k,true) #[.int .u8 0,.string ⟨#[]⟩,.string ⟨#[]⟩,.slice none 0 0,.string ⟨#[]⟩,I 0,I 0,.string ⟨#[]⟩,I 0,I 0,I (at_:Int)] (W.setCell ⟨w.heap.size+1,10,none⟩ (I (at_:Int))).drew):=Lib.hid (by have h:=(L0.out.set 10 (I (at_:Int))).new ((New.refl _).drew);simpa using h);refine hK _ _ (fun hx=>by cases hx) ?_;clear hK K hS0;refine av (by kernel_rfl) ?_;(try simp only[Act.put,sLs])
 (try simp only[Exit.then])
 clear c0 c1 q3 hG hb1 p0 p1 p2 p3 p4 p5 p6 p7 p8 p9 p10 D4 hPl L0;generalize(W.setCell ⟨w.heap.size+1,10,none⟩ (I (at_:Int))).drew=W1 at L1 ⊢;have hh:=hia _ L1.out.r;clear hia;obtain⟨bA,hbA⟩:∃b,ce 1 fN l k=b:=⟨_,rfl⟩
 rw[hbA] at hh;go_wp2_with fail;refine hh.mono ?_;rintro e W2 ⟨rfl,n2⟩;have L2:=Lib.hid (L1.out.new n2);clear hh n2 L1;go_upto_if 18 with fail
 go_cut [18] from 19 (fun _ w'=>Hid (∃(x:LIt) (s:RS) (ao:Option Addr) (co:Nat),eZ l k=(x,s)∧LocS w G (w.heap.size+1) w.heap.size l (some ⟨b1,o1,none⟩) c 105 #[.int .u8 0,.string ⟨#[]⟩,.string ⟨#[]⟩,.slice none 0 0,.string ⟨#[]⟩,I 0,I 0,.string ⟨#[]⟩,I 0,I 0,I 0] s (itA (x.mem ao co)) w'∧bc w' w.heap.size ao co x.xs))
 case rest=>
  clear hie hii hio hbA L2;obtain⟨x,s4,ao,co,hbd,hL,how⟩:=hcut.out;obtain⟨kd,nm,tg,xs,⟨n1,q1,z1⟩,⟨n3,q3,z3⟩,at9⟩:=x;obtain⟨N1,hN1⟩:∃S:ByteArray,(⟨nm.toArray⟩:ByteArray)=S:=⟨_,rfl⟩
  obtain⟨N3,hN3⟩:∃S:ByteArray,(⟨tg.toArray⟩:ByteArray)=S:=⟨_,rfl⟩
  obtain⟨m4,hm4⟩:∃m,xs.length=m:=⟨_,rfl⟩
  obtain⟨B1,hB1⟩:∃S:ByteArray,(⟨n1.toArray⟩:ByteArray)=S:=⟨_,rfl⟩
  obtain⟨B3,hB3⟩:∃S:ByteArray,(⟨n3.toArray⟩:ByteArray)=S:=⟨_,rfl⟩
  obtain⟨s9,hs9⟩:∃r,cE l 3 [59] s4=r:=⟨_,rfl⟩
  simp only[itA,LIt.mem,hN1,hN3,hm4,hB1,hB3] at hL;have hme:=fun W (r:RAt W G l (some ⟨b1,o1,none⟩) c s4)=>eA W G l _ c s4 HE.out r 3 (by decide) ⟨#[59]⟩ [59] rfl
  rw[hs9] at hme;have HBD:=Lib.hid hbd;have HQ:=Lib.hid (And.intro hs9 (And.intro hN1 (And.intro hN3 (And.intro hm4 (And.intro hB1 hB3)))));have L3:=Lib.hid hL;have OW:=Lib.hid how;clear hcut hbd hL how hs9 hN1 hN3 hm4 hB1 hB3;have hh:=hme _ L3.out.r;go_wp2_with fail;refine hh.mono ?_;rintro e X41 ⟨rfl,H2,k2⟩;have L4:=Lib.hid (L3.out.call H2 k2);have OW2:=Lib.hid (BI OW.out k2 HGL.out);clear hh H2 k2 L3;obtain⟨⟨p0,p1,p2,p3,p4,p5,p6,p7,p8,p9,p10⟩,pf,hPl⟩:=aF L4.out.bp;clear pf;obtain⟨⟨r0,r1,r2,r3,r4,r5,r6,r7,r8,r9,r10⟩,rf,hRl⟩:=aF L4.out.bR;have rf0:=rf 0;have rf1:=rf 1;have rf2:=rf 2;have rf3:=rf 3;have rf4:=rf 4;have rf5:=rf 5;have rf6:=rf 6;have rf7:=rf 7;have rf8:=rf 8;have rf9:=rf 9;have D5:=rf 10;have hst:=jY L4.out.bR (.int .u8 kd) (.string N1) (.string N3) (.slice ao m4 co) (.string B1) (I q1) (I (z1:Int)) (.string B3) (I q3) (I (z3:Int)) (I (at9:Int));have HD:=Lib.hid (And.intro hst.1 (L4.out.done hst.2));have OW3:=Lib.hid (qQ OW2.out L4.out.bR hst.2);clear rf hst;go_wp2_with fail;have hd:=HD.out;have how:=OW3.out;clear HD OW3 r0 r1 r2 r3 r4 r5 r6 r7 r8 r9 r10 rf0 rf1 rf2 rf3 rf4 rf5 rf6 rf7 rf8 rf9 D5;generalize(((((((((((X41.setCell ⟨w.heap.size,0,none⟩ (.int .u8 kd)).setCell ⟨w.heap.size,1,none⟩ (.string N1)).setCell ⟨w.heap.size,2,none⟩ (.string N3)).setCell ⟨w.heap.size,3,none⟩ (.slice ao m4 co)).setCell ⟨w.heap.size,4,none⟩ (.string B1)).setCell ⟨w.heap.size,5,none⟩ (I q1)).setCell ⟨w.heap.size,6,none⟩ (I (z1:Int))).setCell ⟨w.heap.size,7,none⟩ (.string B3)).setCell ⟨w.heap.size,8,none⟩ (I q3)).setCell ⟨w.heap.size,9,none⟩ (I (z3:Int))).setCell ⟨w.heap.size,10,none⟩ (I (at9:Int)))=Wf at hd how ⊢;obtain⟨⟨r0,r1,r2,r3,r4,r5,r6,r7,r8,r9,r10⟩,-,-⟩:=aF hd.1;refine bodyPost_ret (v:= .agg #[.int .u8 kd,.string N1,.string N3,.slice ao m4 co,.string B1,I q1,I (z1:Int),.string B3,I q3,I (z3:Int),I (at9:Int)]) (by simp[results,Tryz.results62,go_sem,r0,r1,r2,r3,r4,r5,r6,r7,r8,r9,r10]) rfl ?_;rw[HPO.out,HIT.out];exact⟨ao,co,by
   have h:=HQ.out;rw[HBD.out];simp only[itA,LIt.mem,h.2.1,h.2.2.1,h.2.2.2.1,h.2.2.2.2.1,h.2.2.2.2.2];(try rfl),by rw[HBD.out];exact how,by rw[HBD.out];simp only;rw[HQ.out.1];exact hd.2.1,hd.2.2⟩
 case first=>
 cases bA with
 |true=>
  obtain⟨r1,hr1⟩:∃r,cq l (k+1,true)=r:=⟨_,rfl⟩
  obtain⟨s2,hs2⟩:∃r,cE l 3 [61] r1.2=r:=⟨_,rfl⟩
  obtain⟨r3,hr3⟩:∃r,cq l s2=r:=⟨_,rfl⟩
  obtain⟨r4,hr4⟩:∃r,jc l r3.2=r:=⟨_,rfl⟩
  have hbd:eZ l k=(⟨1,r1.1,r3.1,r4.1,plZ,plZ,at_⟩,r4.2):=by unfold eZ;rw[if_pos hbA,HAT.out];unfold qw;simp only[hr1,hs2,hr3,hr4]
  have hw1:=fun W (r:RAt W G l (some ⟨b1,o1,none⟩) c (k+1,true))=>gV W G l _ c (k+1,true) HE.out r
  rw[hr1] at hw1;have hm2:=fun W (r:RAt W G l (some ⟨b1,o1,none⟩) c r1.2)=>eA W G l _ c r1.2 HE.out r 3 (by decide) ⟨#[61]⟩ [61] rfl
  rw[hs2] at hm2;have hw3:=fun W (r:RAt W G l (some ⟨b1,o1,none⟩) c s2)=>gV W G l _ c s2 HE.out r
  rw[hr3] at hw3;have hn4:=fun W (r:RAt W G l (some ⟨b1,o1,none⟩) c r3.2)=>qh W G l _ c r3.2 HE.out r
  rw[hr4] at hn4;obtain⟨N1,hN1⟩:∃S:ByteArray,(⟨r1.1.toArray⟩:ByteArray)=S:=⟨_,rfl⟩
  obtain⟨N3,hN3⟩:∃S:ByteArray,(⟨r3.1.toArray⟩:ByteArray)=S:=⟨_,rfl⟩
  rw[hN1] at hw1;rw[hN3] at hw3;obtain⟨m4,hm4⟩:∃m,r4.1.length=m:=⟨_,rfl⟩
  rw[hm4] at hn4;have HBD:=Lib.hid hbd;have HQ:=Lib.hid (And.intro hN1 (And.intro hN3 hm4));have HLK:=Lib.hid hbA;clear hie hii hio hr1 hs2 hr3 hr4 hbd hN1 hN3 hm4 hbA;have HK2:=Lib.hid (HNX.out _ HLK.out);obtain⟨-,c1,-,f1,-,hG⟩:=L2.out.r.cells;simp only at c1;have hs1:=L2.out.r.set1 (k+1) HK2.out;rw[show((k+1:Nat):Int)=(k:Int)+1 by omega] at hs1;have L3:=Lib.hid (L2.out.call hs1.1 hs1.2);obtain⟨⟨p0,p1,p2,p3,p4,p5,p6,p7,p8,p9,p10⟩,pf,hPl⟩:=aF L2.out.bp;have pf0:=pf 0;obtain⟨⟨m0,-⟩,mf,hMl⟩:=aF L3.out.bp;have mf0:=mf 0;clear hs1 pf mf;clear L2;have hL:=L3.out.set 0 (.int .u8 1);simp only[sLs] at hL;have L4:=Lib.hid hL;clear hL L3;have hh:=hw1 _ L4.out.r;go_wp2_with fail;clear c1 f1 hG p0 p1 p2 p3 p4 p5 p6 p7 p8 p9 p10 hPl pf0 m0 hMl mf0;refine hh.mono ?_;rintro e X41 ⟨rfl,H2,k2⟩;have L5:=Lib.hid (L4.out.call H2 k2);clear hh H2 k2 L4;obtain⟨⟨p0,p1,p2,p3,p4,p5,p6,p7,p8,p9,p10⟩,pf,hPl⟩:=aF L5.out.bp;have pf1:=pf 1;clear pf;have hL:=L5.out.set 1 (.string N1);simp only[sLs] at hL;have L6:=Lib.hid hL;clear hL L5;have hh:=hm2 _ L6.out.r;go_wp2_with fail;clear p0 p1 p2 p3 p4 p5 p6 p7 p8 p9 p10 hPl pf1;refine hh.mono ?_;rintro e X42 ⟨rfl,H2,k2⟩;have L7:=Lib.hid (L6.out.call H2 k2);clear hh H2 k2 L6;obtain⟨⟨p0,p1,p2,p3,p4,p5,p6,p7,p8,p9,p10⟩,pf,hPl⟩:=aF L7.out.bp;clear pf;have hh:=hw3 _ L7.out.r;go_wp2_with fail;refine hh.mono ?_;rintro e X43 ⟨rfl,H2,k2⟩;have L8:=Lib.hid (L7.out.call H2 k2);clear hh H2 k2 L7;obtain⟨⟨p0,p1,p2,p3,p4,p5,p6,p7,p8,p9,p10⟩,pf,hPl⟩:=aF L8.out.bp;have pf2:=pf 2;clear pf;have hL:=L8.out.set 2 (.string N3);simp only[sLs] at hL;have L9:=Lib.hid hL;clear hL L8;have hh:=hn4 _ L9.out.r;go_wp2_with fail;clear p0 p1 p2 p3 p4 p5 p6 p7 p8 p9 p10 hPl pf2;refine hh.mono ?_;rintro e X44 ⟨ao,co,rfl,CX,H2,k2⟩;have hsz:=L9.out.k.size;have L10:=Lib.hid (L9.out.call H2 k2);have OWN:=Lib.hid (BJ CX hsz);clear hh H2 k2 CX hsz L9;obtain⟨⟨p0,p1,p2,p3,p4,p5,p6,p7,p8,p9,p10⟩,pf,hPl⟩:=aF L10.out.bp;have pf3:=pf 3;clear pf;have OWB:=Lib.hid L10.out.bp;have hL:=L10.out.set 3 (.slice ao m4 co);simp only[sLs] at hL;have L11:=Lib.hid hL;clear hL L10;go_wp2_with fail;go_meet
  case rel=>
   refine Lib.hid ⟨_,_,ao,co,HBD.out,?_,(qQ OWN.out OWB.out (Keeps.setCell (S:=fun b=>b=w.heap.size+1) X44 ⟨w.heap.size+1,3,none⟩ (.slice ao m4 co) rfl))⟩;have h:=HQ.out;have hL:=L11.out;simp only[itA,LIt.mem,plZ,h.1,h.2.1,h.2.2];exact hL
 |false=>
  have hh:=hie _ L2.out.r;clear hie;obtain⟨bE,hbE⟩:∃b,ce 1 ib l k=b:=⟨_,rfl⟩
  rw[hbE] at hh;go_wp2_with fail;refine hh.mono ?_;rintro e W3 ⟨rfl,n2⟩;have L3:=Lib.hid (L2.out.new n2);clear hh n2 L2;cases bE with
  |true=>
   obtain⟨r1,hr1⟩:∃r,dv l (k+1,true)=r:=⟨_,rfl⟩
   obtain⟨⟨n1,q1,z1⟩,s1⟩:=r1;obtain⟨s2,hs2⟩:∃r,cE l 3 [45,62] s1=r:=⟨_,rfl⟩
   obtain⟨r3,hr3⟩:∃r,dv l s2=r:=⟨_,rfl⟩
   obtain⟨⟨n3,q3,z3⟩,⟨k3,ok3⟩⟩:=r3;have hbd:eZ l k=(⟨2,[],[],(ld l (k3,ok3)).1,⟨n1,q1,z1⟩,⟨n3,q3,z3⟩,at_⟩,(ld l (k3,ok3)).2):=by unfold eZ;rw[if_neg (by rw[hbA];simp),if_pos hbE,HAT.out];unfold uE;simp only[hr1,hs2,hr3]
   have hp1:=fun W (r:RAt W G l (some ⟨b1,o1,none⟩) c (k+1,true))=>jE W G l _ c (k+1,true) HE.out r
   rw[hr1] at hp1;simp only[plV] at hp1;have hm2:=fun W (r:RAt W G l (some ⟨b1,o1,none⟩) c s1)=>eA W G l _ c s1 HE.out r 3 (by decide) ⟨#[45,62]⟩ [45,62] rfl
   rw[hs2] at hm2;have hp3:=fun W (r:RAt W G l (some ⟨b1,o1,none⟩) c s2)=>jE W G l _ c s2 HE.out r
   rw[hr3] at hp3;simp only[plV] at hp3;obtain⟨B1,hB1⟩:∃S:ByteArray,(⟨n1.toArray⟩:ByteArray)=S:=⟨_,rfl⟩
   rw[hB1] at hp1;obtain⟨B3,hB3⟩:∃S:ByteArray,(⟨n3.toArray⟩:ByteArray)=S:=⟨_,rfl⟩
   rw[hB3] at hp3;have A2:=Lib.hid hbd;have HNB:=Lib.hid (And.intro hB1 hB3);have HLK:=Lib.hid hbE;clear hii hio hr1 hs2 hr3 hbd hB1 hB3 hbE hbA;have HK2:=Lib.hid (HNX.out _ HLK.out);obtain⟨-,c1,-,f1,-,hG⟩:=L3.out.r.cells;simp only at c1;have hs1:=L3.out.r.set1 (k+1) HK2.out;rw[show((k+1:Nat):Int)=(k:Int)+1 by omega] at hs1;have L4:=Lib.hid (L3.out.call hs1.1 hs1.2);obtain⟨⟨p0,p1,p2,p3,p4,p5,p6,p7,p8,p9,p10⟩,pf,hPl⟩:=aF L3.out.bp;have pf0:=pf 0;obtain⟨⟨m0,-⟩,mf,hMl⟩:=aF L4.out.bp;have mf0:=mf 0;clear hs1 pf mf;clear L3;have hL:=L4.out.set 0 (.int .u8 2);simp only[sLs] at hL;have L5:=Lib.hid hL;clear hL L4;have hh:=hp1 _ L5.out.r;go_wp2_with fail;clear c1 f1 hG p0 p1 p2 p3 p4 p5 p6 p7 p8 p9 p10 hPl pf0 m0 hMl mf0;refine hh.mono ?_;rintro e X61 ⟨rfl,H2,k2⟩;have L6:=Lib.hid (L5.out.call H2 k2);clear hh H2 k2 L5;obtain⟨⟨p0,p1,p2,p3,p4,p5,p6,p7,p8,p9,p10⟩,pf,hPl⟩:=aF L6.out.bp;have pf4:=pf 4;have pf5:=pf 5;have pf6:=pf 6;clear pf;have hL:=((L6.out.set 4 (.string B1)).set 5 (I q1)).set 6 (I (z1:Int));simp only[sLs] at hL;have L7:=Lib.hid hL;clear hL L6;have hh:=hm2 _ L7.out.r;go_wp2_with fail;clear p0 p1 p2 p3 p4 p5 p6 p7 p8 p9 p10 hPl pf4 pf5 pf6;refine hh.mono ?_;rintro e X62 ⟨rfl,H2,k2⟩;have L8:=Lib.hid (L7.out.call H2 k2);clear hh H2 k2 L7;obtain⟨⟨p0,p1,p2,p3,p4,p5,p6,p7,p8,p9,p10⟩,pf,hPl⟩:=aF L8.out.bp;clear pf;have hh:=hp3 _ L8.out.r;go_wp2_with fail;refine hh.mono ?_;rintro e X63 ⟨rfl,H2,k2⟩;have L9:=Lib.hid (L8.out.call H2 k2);clear hh H2 k2 L8;obtain⟨⟨p0,p1,p2,p3,p4,p5,p6,p7,p8,p9,p10⟩,pf,hPl⟩:=aF L9.out.bp;have pf7:=pf 7;have pf8:=pf 8;have pf9:=pf 9;clear pf;have hL:=((L9.out.set 7 (.string B3)).set 8 (I q3)).set 9 (I (z3:Int));simp only[sLs] at hL;have L10:=Lib.hid hL;clear hL L9;cases ok3 with
   |false=>
    obtain⟨s4,hs4⟩:∃s:RS,(k3,false)=s:=⟨_,rfl⟩
    have HW:Hid (ld l (k3,false)=([],s4)):=Lib.hid (by rw[<-hs4];rfl);obtain⟨-,g1,g2,gf1,-,hG⟩:=L10.out.r.cells;simp only at g1 g2;have L11:Hid (LocS w G (w.heap.size+1) w.heap.size l (some ⟨b1,o1,none⟩) c 105 #[.int .u8 0,.string ⟨#[]⟩,.string ⟨#[]⟩,.slice none 0 0,.string ⟨#[]⟩,I 0,I 0,.string ⟨#[]⟩,I 0,I 0,I 0] s4 #[.int .u8 2,.string ⟨#[]⟩,.string ⟨#[]⟩,.slice none 0 0,.string B1,I q1,I (z1:Int),.string B3,I q3,I (z3:Int),I (at_:Int)] (((X63.setCell ⟨w.heap.size+1,7,none⟩ (.string B3)).setCell ⟨w.heap.size+1,8,none⟩ (I q3)).setCell ⟨w.heap.size+1,9,none⟩ (I (z3:Int)))):=Lib.hid (by rw[<-hs4];exact L10.out);clear L10 hs4;have HBD:Hid (eZ l k=(⟨2,[],[],[],⟨n1,q1,z1⟩,⟨n3,q3,z3⟩,at_⟩,s4)):=Lib.hid (by rw[A2.out,HW.out]);have HQ:=HNB;go_wp2_with fail;go_meet
    case rel=>
     refine Lib.hid ⟨_,_,none,0,HBD.out,?_,bc.nil _ _⟩;have h:=HQ.out;have hL:=L11.out;simp only[itA,LIt.mem,plZ,h.1,h.2];exact hL
   |true=>
    have hiw:∀W,RAt W G l (some ⟨b1,o1,none⟩) c (k3,true)->Calls Tryz.prog 61 #[.pointer (some ⟨G,0,none⟩),.int .u8 1,.string ⟨#[119,105,116,104]⟩] W fun e w'=>e= .returned (.bool (ce 1 gE l k3))∧New W w':=fun W r=>jD W G l _ c k3 true r 1 ⟨#[119,105,116,104]⟩
    obtain⟨bW,hbW⟩:∃b,ce 1 gE l k3=b:=⟨_,rfl⟩
    rw[hbW] at hiw;have hh:=hiw _ L10.out.r;obtain⟨-,g1,g2,gf1,-,hG⟩:=L10.out.r.cells;simp only at g1 g2;go_wp2_with fail;refine hh.mono ?_;rintro e W4 ⟨rfl,n2⟩;have L11:=Lib.hid (L10.out.new n2);clear hh hiw n2 L10 g1 g2 gf1 hG p0 p1 p2 p3 p4 p5 p6 p7 p8 p9 p10 hPl pf7 pf8 pf9;cases bW with
    |false=>
     obtain⟨s4,hs4⟩:∃s:RS,(k3,true)=s:=⟨_,rfl⟩
     have HW:Hid (ld l (k3,true)=([],s4)):=Lib.hid (by rw[<-hs4];show(if ce 1 gE l k3=true then _ else _)=_;rw[if_neg (by rw[hbW];simp)]);have L12:Hid (LocS w G (w.heap.size+1) w.heap.size l (some ⟨b1,o1,none⟩) c 105 #[.int .u8 0,.string ⟨#[]⟩,.string ⟨#[]⟩,.slice none 0 0,.string ⟨#[]⟩,I 0,I 0,.string ⟨#[]⟩,I 0,I 0,I 0] s4 #[.int .u8 2,.string ⟨#[]⟩,.string ⟨#[]⟩,.slice none 0 0,.string B1,I q1,I (z1:Int),.string B3,I q3,I (z3:Int),I (at_:Int)] W4):=Lib.hid (by rw[<-hs4];exact L11.out);clear hs4 L11;have HBD:Hid (eZ l k=(⟨2,[],[],[],⟨n1,q1,z1⟩,⟨n3,q3,z3⟩,at_⟩,s4)):=Lib.hid (by rw[A2.out,HW.out]);have HQ:=HNB;go_wp2_with fail;go_meet
     case rel=>
      refine Lib.hid ⟨_,_,none,0,HBD.out,?_,bc.nil _ _⟩;have h:=HQ.out;have hL:=L12.out;simp only[itA,LIt.mem,plZ,h.1,h.2];exact hL
    |true=>
     obtain⟨r5,hr5⟩:∃r,gN l (k3+1,true)=r:=⟨_,rfl⟩
     obtain⟨v5,s5⟩:=r5;obtain⟨r6,hr6⟩:∃r,jc l s5=r:=⟨_,rfl⟩
     obtain⟨x6,s4⟩:=r6;have HW:Hid (ld l (k3,true)=(v5::x6,s4)):=Lib.hid (by show(if ce 1 gE l k3=true then(let r1:=gN l (k3+1,true);let r2:=jc l r1.2;(r1.1::r2.1,r2.2)) else _)=_;rw[if_pos hbW];simp only[hr5,hr6]);have hk5:k3+1<l.length:=by
      obtain⟨u,hu,hs,_⟩:=kC hbW;exact HE.out.next hu (by omega)
     have HK5:=Lib.hid hk5;have hn5:=fun W (r:RAt W G l (some ⟨b1,o1,none⟩) c (k3+1,true))=>j4 W G l _ c (k3+1,true) HE.out r
     rw[hr5] at hn5;have hn6:=fun W (r:RAt W G l (some ⟨b1,o1,none⟩) c s5)=>qh W G l _ c s5 HE.out r
     rw[hr6] at hn6;obtain⟨m6,hm6⟩:∃m,x6.length=m:=⟨_,rfl⟩
     rw[hm6] at hn6;have HM6:=Lib.hid hm6;have Et:m6<=2000000:=Dl l s5 x6 s4 hr6 hm6 HLE.out;clear hr5 hr6 hk5 hbW hm6;obtain⟨-,g1,g2,gf1,-,hG⟩:=L11.out.r.cells;simp only at g1 g2;have hs1:=L11.out.r.set1 (k3+1) HK5.out;rw[show((k3+1:Nat):Int)=(k3:Int)+1 by omega] at hs1;have En:(k3:Int)+1<=2000001:=by have:=HK5.out;have:=HLE.out;omega
     have L12:=Lib.hid (L11.out.call hs1.1 hs1.2);have hh:=hn5 _ L12.out.r;clear hs1 L11;go_wp2_with fail;refine hh.mono ?_;rintro e W5 ⟨rfl,H2,k2⟩;have L13:=Lib.hid (L12.out.call H2 k2);clear hh H2 k2 L12 g1 g2 gf1 hG;obtain⟨⟨p0,p1,p2,p3,p4,p5,p6,p7,p8,p9,p10⟩,pf,hPl⟩:=aF L13.out.bp;have pf3:=pf 3;clear pf;have na:New W5 (W5.alloc (.cells #[I v5] 3)):=(New.refl _).alloc _;have hnl:(W5.alloc (.cells #[I v5] 3)).ownsRow w.heap.size 3 1 (.slice none 0 0) 0 []:=World.ownsRow_nil _ _ _ _;have HNL:=Lib.hid hnl;have L14:=Lib.hid (L13.out.new na);have hz5:w.heap.size<=(W5.alloc (.cells #[I v5] 3)).heap.size:=L14.out.k.size;have lU:∀u∈[I v5],u.oneCell'=true:=by intro u hu;simp only[List.mem_cons,List.not_mem_nil,or_false] at hu;rcases hu with rfl;rfl
     clear L13 na hnl;go_wp2_with (at_builtin;refine aR rfl _ _ 61 rfl w.heap.size 3 i0 (.int .i64 0) 1 8 Tryz.underlying61 hi hz0 hz1 hz2 rfl (by decide) none 0 0 [] rfl HNL.out (some ⟨W5.heap.size,0,none⟩) 1 1 [I v5] rfl rfl (ar.lit W5 #[I v5] _) lU (by unfold maxLen;omega) (by omega) hz5 ?_);intro a5 c5 W6 lV hk5 _ _;(try simp only[Nat.zero_add,List.nil_append] at lV)
     (try simp only[Nat.zero_add])
     have L15:=Lib.hid (L14.out.app HNL.out B8.out hk5);have HOW:=Lib.hid lV;clear L14 hk5 lV HNL p0 p1 p2 p3 p4 p5 p6 p7 p8 p9 p10 pf3 hPl lU hz5;obtain⟨⟨p0,p1,p2,p3,p4,p5,p6,p7,p8,p9,p10⟩,pf,hPl⟩:=aF L15.out.bp;have pf3:=pf 3;clear pf;have B9:=Lib.hid (al HOW.out (Keeps.setCell (S:=fun b=>b=w.heap.size+1) W6 ⟨w.heap.size+1,3,none⟩ (.slice a5 1 c5) rfl) (fun g hg=>⟨_,_,_,hg▸L15.out.bp,by decide⟩));have hL:=L15.out.set 3 (.slice a5 1 c5);simp only[sLs] at hL;have L16:=Lib.hid hL;clear hL L15;go_wp2_with fail;clear p0 p1 p2 p3 p4 p5 p6 p7 p8 p9 p10 pf3 hPl;generalize(W6.setCell ⟨w.heap.size+1,3,none⟩ (.slice a5 1 c5))=W7 at L16 B9 ⊢;obtain⟨⟨p0,p1,p2,p3,p4,p5,p6,p7,p8,p9,p10⟩,-,hPl⟩:=aF L16.out.bp;have hS0:(fun w':World=>w'.cell? ⟨w.heap.size+1,3,none⟩=some (.slice a5 1 c5)∧w.heap.size+1<w'.heap.size) W7.drew:=⟨p3,hPl⟩
     refine aj (fun w':World=>w'.cell? ⟨w.heap.size+1,3,none⟩=some (.slice a5 1 c5)∧w.heap.size+1<w'.heap.size) [4,5,6] (by kernel_rfl) hS0 ?_;refine ae 0 hS0 ?_;refine ae 1 hS0 ?_;refine ae 2 hS0 ?_;refine ag 3 ?_;intro K hK;(try simp only[Act.put,sLs])
     go_simp;have L17:=Lib.hid (L16.out.new ((New.refl W7).drew));refine(hn6 _ L17.out.r).mono ?_;rintro e W8 ⟨ao6,co6,rfl,CY,H2,k2⟩;have L18:=Lib.hid (L17.out.call H2 k2);obtain⟨⟨-,-,-,e3,-,-,-,-,-,-,-⟩,-,ePl⟩:=aF L18.out.bp;have hS1:(fun w':World=>w'.cell? ⟨w.heap.size+1,3,none⟩=some (.slice a5 1 c5)∧w.heap.size+1<w'.heap.size) W8:=⟨e3,ePl⟩
     have Ca:=Lib.hid (As ((New.refl W7).drew.owns B9.out) k2 HGL.out);have HX8:=Lib.hid CY.sl;have hz8:w.heap.size<=W8.heap.size:=L18.out.k.size;refine hK _ _ (fun _=>hS1) ?_;clear hK K L16 L17 H2 k2 CY;refine ag 4 ?_;intro K hK;refine cS rfl _ _ 61 rfl w.heap.size 3 i0 (.int .i64 0) 1 8 Tryz.underlying61 hi hz0 hz1 hz2 rfl (by decide) a5 1 c5 [I v5] rfl Ca.out ao6 m6 co6 (Is x6) rfl (by rw[<-HM6.out];simp[Is]) HX8.out (ints_oneCell .i64 x6) (by unfold maxLen;omega) (by omega) hz8 ?_;intro a9 c9' W9 ij hk9 _;have L19:=Lib.hid (L18.out.app Ca.out B8.out hk9);refine hK _ _ (fun hx=>by cases hx) ?_;clear hK K hk9 L18 hS0 hS1;obtain⟨⟨d0,d1,d2,d3,d4,d5,d6,d7,d8,d9,d10⟩,pf,dPl⟩:=aF L19.out.bp;have pf3:=pf 3;clear pf;refine ag 5 ?_;intro K hK;(try simp only[Act.put,sLs])
     go_simp;refine hK _ _ (fun hx=>by cases hx) ?_;clear hK K;refine ag 6 ?_;intro K hK;(try simp only[Act.put,sLs])
     go_simp;refine hK _ _ (fun hx=>by cases hx) ?_;clear hK K;refine av (by kernel_rfl) ?_;(try simp only[Act.put,sLs])
     (try simp only[Exit.then])
     obtain⟨m9,hm9⟩:∃m,1+m6=m:=⟨_,rfl⟩
     (try rw[hm9] at ij)
     (try rw[hm9])
     have OWN:Hid (bc W9 w.heap.size a9 c9' (v5::x6)):=Lib.hid (by
      have e:(v5::x6).length=m9:=by simp only[List.length_cons];have:=HM6.out;omega
      unfold bc;rw[e];exact ij)
     have zR:Hid ((v5::x6).length=m9):=Lib.hid (by simp only[List.length_cons];have:=HM6.out;omega);have OWB:=Lib.hid L19.out.bp;clear ij hm9 p0 p1 p2 p3 p4 p5 p6 p7 p8 p9 p10 hPl e3 ePl;have hL:=L19.out.set 3 (.slice a9 m9 c9');simp only[sLs] at hL;have L20:=Lib.hid hL;clear hL L19;clear d0 d1 d2 d3 d4 d5 d6 d7 d8 d9 d10 dPl pf3;obtain⟨ao,hao⟩:∃z,z=a9:=⟨_,rfl⟩
     obtain⟨co,hco⟩:∃z,z=c9':=⟨_,rfl⟩
     subst hao hco;have HBD:Hid (eZ l k=(⟨2,[],[],v5::x6,⟨n1,q1,z1⟩,⟨n3,q3,z3⟩,at_⟩,s4)):=Lib.hid (by rw[A2.out,HW.out]);have HQ:=HNB;go_wp2_with fail;go_meet
     case rel=>
      refine Lib.hid ⟨_,_,ao,co,HBD.out,?_,(qQ OWN.out OWB.out (Keeps.setCell (S:=fun b=>b=w.heap.size+1) W9 ⟨w.heap.size+1,3,none⟩ (.slice ao m9 co) rfl))⟩;have h:=HQ.out;have hL:=L20.out;simp only[itA,LIt.mem,plZ,h.1,h.2,zR.out];exact hL
  |false=>
   have hh:=hii _ L3.out.r;clear hii;obtain⟨bI,hbI⟩:∃b,ce 1 inW l k=b:=⟨_,rfl⟩
   rw[hbI] at hh;go_wp2_with fail;refine hh.mono ?_;rintro e W4 ⟨rfl,n2⟩;have L4:=Lib.hid (L3.out.new n2);clear hh n2 L3;cases bI with
   |true=>
    obtain⟨r1,hr1⟩:∃r,cq l (k+1,true)=r:=⟨_,rfl⟩
    obtain⟨n1,s1⟩:=r1;obtain⟨s2,hs2⟩:∃r,cE l 3 [45,62] s1=r:=⟨_,rfl⟩
    obtain⟨r3,hr3⟩:∃r,dv l s2=r:=⟨_,rfl⟩
    obtain⟨⟨n3,q3,z3⟩,s3⟩:=r3;have hbd:eZ l k=(⟨3,n1,[],[],plZ,⟨n3,q3,z3⟩,at_⟩,s3):=by unfold eZ;rw[if_neg (by rw[hbA];simp),if_neg (by rw[hbE];simp),if_pos hbI,HAT.out];unfold inS;simp only[hr1,hs2,hr3]
    have hw1:=fun W (r:RAt W G l (some ⟨b1,o1,none⟩) c (k+1,true))=>gV W G l _ c (k+1,true) HE.out r
    rw[hr1] at hw1;have hm2:=fun W (r:RAt W G l (some ⟨b1,o1,none⟩) c s1)=>eA W G l _ c s1 HE.out r 3 (by decide) ⟨#[45,62]⟩ [45,62] rfl
    rw[hs2] at hm2;have hp3:=fun W (r:RAt W G l (some ⟨b1,o1,none⟩) c s2)=>jE W G l _ c s2 HE.out r
    rw[hr3] at hp3;simp only[plV] at hp3;obtain⟨B1,hB1⟩:∃S:ByteArray,(⟨n1.toArray⟩:ByteArray)=S:=⟨_,rfl⟩
    rw[hB1] at hw1;obtain⟨B3,hB3⟩:∃S:ByteArray,(⟨n3.toArray⟩:ByteArray)=S:=⟨_,rfl⟩
    rw[hB3] at hp3;have HBD:=Lib.hid hbd;have HQ:=Lib.hid (And.intro hB1 hB3);have HLK:=Lib.hid hbI;clear hio hr1 hs2 hr3 hbd hB1 hB3 hbE hbA hbI;have HK2:=Lib.hid (HNX.out _ HLK.out);obtain⟨-,c1,-,f1,-,hG⟩:=L4.out.r.cells;simp only at c1;have hs1:=L4.out.r.set1 (k+1) HK2.out;rw[show((k+1:Nat):Int)=(k:Int)+1 by omega] at hs1;have L5:=Lib.hid (L4.out.call hs1.1 hs1.2);obtain⟨⟨p0,p1,p2,p3,p4,p5,p6,p7,p8,p9,p10⟩,pf,hPl⟩:=aF L4.out.bp;have pf0:=pf 0;obtain⟨⟨m0,-⟩,mf,hMl⟩:=aF L5.out.bp;have mf0:=mf 0;clear hs1 pf mf;clear L4;have hL:=L5.out.set 0 (.int .u8 3);simp only[sLs] at hL;have L6:=Lib.hid hL;clear hL L5;have hh:=hw1 _ L6.out.r;go_wp2_with fail;clear c1 f1 hG p0 p1 p2 p3 p4 p5 p6 p7 p8 p9 p10 hPl pf0 m0 hMl mf0;refine hh.mono ?_;rintro e X81 ⟨rfl,H2,k2⟩;have L7:=Lib.hid (L6.out.call H2 k2);clear hh H2 k2 L6;obtain⟨⟨p0,p1,p2,p3,p4,p5,p6,p7,p8,p9,p10⟩,pf,hPl⟩:=aF L7.out.bp;have pf1:=pf 1;clear pf;have hL:=L7.out.set 1 (.string B1);simp only[sLs] at hL;have L8:=Lib.hid hL;clear hL L7;have hh:=hm2 _ L8.out.r;go_wp2_with fail;clear p0 p1 p2 p3 p4 p5 p6 p7 p8 p9 p10 hPl pf1;refine hh.mono ?_;rintro e X82 ⟨rfl,H2,k2⟩;have L9:=Lib.hid (L8.out.call H2 k2);clear hh H2 k2 L8;obtain⟨⟨p0,p1,p2,p3,p4,p5,p6,p7,p8,p9,p10⟩,pf,hPl⟩:=aF L9.out.bp;clear pf;have hh:=hp3 _ L9.out.r;go_wp2_with fail;refine hh.mono ?_;rintro e X83 ⟨rfl,H2,k2⟩;have L10:=Lib.hid (L9.out.call H2 k2);clear hh H2 k2 L9;obtain⟨⟨p0,p1,p2,p3,p4,p5,p6,p7,p8,p9,p10⟩,pf,hPl⟩:=aF L10.out.bp;have pf7:=pf 7;have pf8:=pf 8;have pf9:=pf 9;clear pf;have hL:=((L10.out.set 7 (.string B3)).set 8 (I q3)).set 9 (I (z3:Int));simp only[sLs] at hL;have L11:=Lib.hid hL;clear hL L10;go_wp2_with fail;go_meet
    case rel=>
     refine Lib.hid ⟨_,_,none,0,HBD.out,?_,bc.nil _ _⟩;have h:=HQ.out;have hL:=L11.out;simp only[itA,LIt.mem,plZ,h.1,h.2];exact hL
   |false=>
    have hh:=hio _ L4.out.r;clear hio;obtain⟨bO,hbO⟩:∃b,ce 1 mH l k=b:=⟨_,rfl⟩
    rw[hbO] at hh;go_wp2_with fail;refine hh.mono ?_;rintro e W5 ⟨rfl,n2⟩;have L5:=Lib.hid (L4.out.new n2);clear hh n2 L4;cases bO with
    |true=>
     obtain⟨r1,hr1⟩:∃r,dv l (k+1,true)=r:=⟨_,rfl⟩
     obtain⟨⟨n1,q1,z1⟩,s1⟩:=r1;obtain⟨s2,hs2⟩:∃r,cE l 3 [45,62] s1=r:=⟨_,rfl⟩
     obtain⟨r3,hr3⟩:∃r,cq l s2=r:=⟨_,rfl⟩
     obtain⟨n3,s3⟩:=r3;have hbd:eZ l k=(⟨4,n3,[],[],⟨n1,q1,z1⟩,plZ,at_⟩,s3):=by unfold eZ;rw[if_neg (by rw[hbA];simp),if_neg (by rw[hbE];simp),if_neg (by rw[hbI];simp),if_pos hbO,HAT.out];unfold Aq;simp only[hr1,hs2,hr3]
     have hp1:=fun W (r:RAt W G l (some ⟨b1,o1,none⟩) c (k+1,true))=>jE W G l _ c (k+1,true) HE.out r
     rw[hr1] at hp1;simp only[plV] at hp1;have hm2:=fun W (r:RAt W G l (some ⟨b1,o1,none⟩) c s1)=>eA W G l _ c s1 HE.out r 3 (by decide) ⟨#[45,62]⟩ [45,62] rfl
     rw[hs2] at hm2;have hw3:=fun W (r:RAt W G l (some ⟨b1,o1,none⟩) c s2)=>gV W G l _ c s2 HE.out r
     rw[hr3] at hw3;obtain⟨B1,hB1⟩:∃S:ByteArray,(⟨n1.toArray⟩:ByteArray)=S:=⟨_,rfl⟩
     rw[hB1] at hp1;obtain⟨B3,hB3⟩:∃S:ByteArray,(⟨n3.toArray⟩:ByteArray)=S:=⟨_,rfl⟩
     rw[hB3] at hw3;have HBD:=Lib.hid hbd;have HQ:=Lib.hid (And.intro hB1 hB3);have HLK:=Lib.hid hbO;clear hr1 hs2 hr3 hbd hB1 hB3 hbE hbA hbI hbO;have HK2:=Lib.hid (HNX.out _ HLK.out);obtain⟨-,c1,-,f1,-,hG⟩:=L5.out.r.cells;simp only at c1;have hs1:=L5.out.r.set1 (k+1) HK2.out;rw[show((k+1:Nat):Int)=(k:Int)+1 by omega] at hs1;have L6:=Lib.hid (L5.out.call hs1.1 hs1.2);obtain⟨⟨p0,p1,p2,p3,p4,p5,p6,p7,p8,p9,p10⟩,pf,hPl⟩:=aF L5.out.bp;have pf0:=pf 0;obtain⟨⟨m0,-⟩,mf,hMl⟩:=aF L6.out.bp;have mf0:=mf 0;clear hs1 pf mf;clear L5;have hL:=L6.out.set 0 (.int .u8 4);simp only[sLs] at hL;have L7:=Lib.hid hL;clear hL L6;have hh:=hp1 _ L7.out.r;go_wp2_with fail;clear c1 f1 hG p0 p1 p2 p3 p4 p5 p6 p7 p8 p9 p10 hPl pf0 m0 hMl mf0;refine hh.mono ?_;rintro e Eb ⟨rfl,H2,k2⟩;have L8:=Lib.hid (L7.out.call H2 k2);clear hh H2 k2 L7;obtain⟨⟨p0,p1,p2,p3,p4,p5,p6,p7,p8,p9,p10⟩,pf,hPl⟩:=aF L8.out.bp;have pf4:=pf 4;have pf5:=pf 5;have pf6:=pf 6;clear pf;have hL:=((L8.out.set 4 (.string B1)).set 5 (I q1)).set 6 (I (z1:Int));simp only[sLs] at hL;have L9:=Lib.hid hL;clear hL L8;have hh:=hm2 _ L9.out.r;go_wp2_with fail;clear p0 p1 p2 p3 p4 p5 p6 p7 p8 p9 p10 hPl pf4 pf5 pf6;refine hh.mono ?_;rintro e Ec ⟨rfl,H2,k2⟩;have L10:=Lib.hid (L9.out.call H2 k2);clear hh H2 k2 L9;obtain⟨⟨p0,p1,p2,p3,p4,p5,p6,p7,p8,p9,p10⟩,pf,hPl⟩:=aF L10.out.bp;clear pf;have hh:=hw3 _ L10.out.r;go_wp2_with fail;refine hh.mono ?_;rintro e Ed ⟨rfl,H2,k2⟩;have L11:=Lib.hid (L10.out.call H2 k2);clear hh H2 k2 L10;obtain⟨⟨p0,p1,p2,p3,p4,p5,p6,p7,p8,p9,p10⟩,pf,hPl⟩:=aF L11.out.bp;have pf1:=pf 1;clear pf;have hL:=L11.out.set 1 (.string B3);simp only[sLs] at hL;have L12:=Lib.hid hL;clear hL L11;go_wp2_with fail;go_meet
     case rel=>
      refine Lib.hid ⟨_,_,none,0,HBD.out,?_,bc.nil _ _⟩;have h:=HQ.out;have hL:=L12.out;simp only[itA,LIt.mem,plZ,h.1,h.2];exact hL
    |false=>
     have hbd:eZ l k=(⟨0,[],[],[],plZ,plZ,at_⟩,(k,false)):=by unfold eZ;rw[if_neg (by rw[hbA];simp),if_neg (by rw[hbE];simp),if_neg (by rw[hbI];simp),if_neg (by rw[hbO];simp),HAT.out]
     have HBD:=Lib.hid hbd;have HQ:=Lib.hid trivial;clear hbd hbE hbA hbI hbO;obtain⟨-,c1,c2,-,f2,hG⟩:=L5.out.r.cells;have hs1:=L5.out.r.set2 false;have L6:=Lib.hid (L5.out.call hs1.1 hs1.2);clear hs1;go_wp2_with fail;go_meet
     case rel=>
      refine Lib.hid ⟨_,_,none,0,HBD.out,?_,bc.nil _ _⟩;have h:=HQ.out;have hL:=L6.out;simp only[itA,LIt.mem,plZ];exact hL
end Go.Proofs.YtnedmonlofbahaaGreatDoor
