/-
  LexV, WhP, WhA, WhB, WhC, WhD, WhE: what is wanted of them.
-/
import Derived.Test.YtnedmonlofbahaaGreatDoorSwD
import Derived.Test.YtnedmonlofbahaaGreatDoorDbl
import Derived.Lib.AppendStr
import Derived.Deep.OwnRows
set_option maxRecDepth 100000
set_option maxHeartbeats 8000000
namespace Go.Proofs.YtnedmonlofbahaaGreatDoor
open Go Go.RowKit Go.Joins
set_option linter.all false
def mkT (s:Int) (n:Nat):List LTok:=(List.range n).map fun(i:Nat)=>⟨s,[],(i:Int),0⟩
abbrev vj:TypeId:=98
structure Two (w0 wr:World) (a:Option Addr) (n ca:Nat) (xs:List LTok) (b:Option Addr) (m cb:Nat) (ys:List LTok):Prop where
 nw:New w0 wr
 oa:wr.ownsRow w0.heap.size vj 4 (.slice a n ca) n (xs.flatMap bm)
 ob:wr.ownsRow w0.heap.size vj 4 (.slice b m cb) m (ys.flatMap bm)
 dis:∀k,blk a k->¬blk b k
structure Four (w0 wr:World) (a:Option Addr) (n ca:Nat) (b:Option Addr) (m cb:Nat) (ac:Option Addr) (kc cc:Nat) (ad:Option Addr) (kd cd:Nat):Prop where
 nw:New w0 wr
 oa:wr.ownsRow w0.heap.size vj 4 (.slice a n ca) n ((mkT 77 n).flatMap bm)
 ob:wr.ownsRow w0.heap.size vj 4 (.slice b m cb) m ((mkT 78 m).flatMap bm)
 oc:wr.ownsRow w0.heap.size vj 4 (.slice ac (n+kc) cc) (n+kc) ((mkT 77 n++mkT 79 kc).flatMap bm)
 od:wr.ownsRow w0.heap.size vj 4 (.slice ad (m+kd) cd) (m+kd) ((mkT 78 m++mkT 80 kd).flatMap bm)
 dis:∀k,(blk a k∨blk ac k)->¬(blk b k∨blk ad k)
 mc:ac=a∨∀k,blk ac k->¬blk a k
 md:ad=b∨∀k,blk ad k->¬blk b k
theorem Four.start {w0 wr:World} {a:Option Addr} {n ca:Nat} {b:Option Addr} {m cb:Nat} (h:Two w0 wr a n ca (mkT 77 n) b m cb (mkT 78 m)):Four w0 wr a n ca b m cb a 0 ca b 0 cb:=by
 refine⟨h.nw,h.oa,h.ob,?_,?_,fun k h1 h2=>h.dis k (by simpa using h1) (by simpa using h2),.inl rfl,.inl rfl⟩
 ·have:=h.oa;simpa[mkT] using this
 ·have:=h.ob;simpa[mkT] using this
theorem Four.new {w0 wr w1:World} {a:Option Addr} {n ca:Nat} {b:Option Addr} {m cb:Nat} {ac:Option Addr} {kc cc:Nat} {ad:Option Addr} {kd cd:Nat} (h:Four w0 wr a n ca b m cb ac kc cc ad kd cd) (k:New wr w1):Four w0 w1 a n ca b m cb ac kc cc ad kd cd:=
 ⟨h.nw.trans k,k.owns h.oa,k.owns h.ob,k.owns h.oc,k.owns h.od,h.dis,h.mc,h.md⟩
end Go.Proofs.YtnedmonlofbahaaGreatDoor
namespace Go.Proofs.YtnedmonlofbahaaGreatDoor
open Go Go.RowKit
set_option linter.all false
def hiD (v j:Nat):Nat:=v/1073741824^j
def dig (v j:Nat):Nat:=hiD v j%1073741824
theorem dt (v:Nat):hiD v 0=v:=by unfold hiD;simp
theorem fP (v j:Nat):hiD v (j+1)=hiD v j/1073741824:=by unfold hiD;rw[Nat.pow_succ,Nat.div_div_eq_div_mul]
theorem gG (v j:Nat):dig v j<1073741824:=Nat.mod_lt _ (by omega)
theorem jw (v j:Nat):hiD v j=hiD v (j+1)*1073741824+dig v j:=by rw[fP];unfold dig;omega
def nd (v:Nat):Nat:=if v=0 then 0 else if v<1073741824 then 1 else if v<1152921504606846976 then 2 else 3
theorem qG (v:Nat):hiD v 1=v/1073741824:=by rw[fP,dt]
theorem qH (v:Nat):hiD v 2=v/1152921504606846976:=by rw[fP,qG];omega
theorem mz (v:Nat):hiD v 3=v/1237940039285380274899124224:=by rw[fP,qH];omega
theorem gT {v j:Nat} (h:hiD v j=0):∀d,hiD v (j+d)=0:=by
 intro d;induction d with
 |zero=>exact h
 |succ d ih=>rw[<-Nat.add_assoc,fP,ih]
theorem my {v:Nat} (hv:v<1237940039285380274899124224):hiD v (nd v)=0:=by
 unfold nd;split
 ·rename_i h;rw[dt];exact h
 ·split
  ·rw[qG];omega
  ·split
   ·rw[qH];omega
   ·rw[mz];omega
theorem qC {v j:Nat} (hv:v<1237940039285380274899124224) (h:nd v<=j):hiD v j=0∧dig v j=0:=by
 have h1:hiD v j=0:=by
  have:=gT (my hv) (j-nd v)
  rwa [show nd v+(j-nd v)=j by omega] at this
 exact⟨h1,by unfold dig;rw[h1]⟩
theorem l0 (v:Nat):nd v<=3:=by
 unfold nd;split
 ·omega
 ·split
  ·omega
  ·split<;>omega
theorem tQ {v:Nat} (hv:v<1237940039285380274899124224) (h:0<nd v):dig v (nd v-1)≠0:=by
 unfold nd at h ⊢;split
 ·rename_i h0;rw[if_pos h0] at h;omega
 ·rename_i h0;split
  ·unfold dig;rw[show(1-1:Nat)=0 from rfl,dt];omega
  ·split
   ·unfold dig;rw[show(2-1:Nat)=1 from rfl,qG];omega
   ·unfold dig;rw[show(3-1:Nat)=2 from rfl,qH];omega
theorem yX {v n:Nat} (hv:v<1237940039285380274899124224) (h0:hiD v n=0) (h1:n=0∨dig v (n-1)≠0):n=nd v:=by
 rcases Nat.lt_trichotomy n (nd v) with h|h|h
 ·have h2:=tQ hv (by omega);have:=gT h0 (nd v-1-n);rw[show n+(nd v-1-n)=nd v-1 by omega] at this;exact absurd (by unfold dig;rw[this]) h2
 ·exact h
 ·rcases h1 with h1|h1
  ·omega
  ·exact absurd (qC hv (show nd v<=n-1 by omega)).2 h1
def dgl (v n:Nat):List Int:=(List.range n).map fun j=>((dig v j:Nat):Int)
theorem gv (v n:Nat):(dgl v n).length=n:=by unfold dgl;simp
theorem Ab (v n j:Nat) (h:j<n):(dgl v n)[j]? =some ((dig v j:Nat):Int):=by
 unfold dgl;rw[List.getElem?_map,List.getElem?_range h];rfl
theorem lO (v n:Nat):dgl v (n+1)=dgl v n++[((dig v n:Nat):Int)]:=by unfold dgl;rw[List.range_succ,List.map_append];rfl
theorem rz (v n m:Nat) (h:m<=n):(dgl v n).take m=dgl v m:=by
 unfold dgl;rw[<-List.map_take,List.take_range,Nat.min_eq_left h]
def dgs (v:Nat):List Int:=dgl v (nd v)
def nU (x y i c:Nat):Prop:=hiD (x+y) i=hiD x i+hiD y i+c∧c<=1
theorem nU.zero (x y:Nat):nU x y 0 0:=⟨by rw[dt,dt,dt];omega,by omega⟩
theorem nU.step {x y i c s:Nat} (h:nU x y i c) (hs:s=c+dig x i+dig y i):s%1073741824=dig (x+y) i∧nU x y (i+1) (s/1073741824):=by
 obtain⟨h1,h2⟩:=h;have ex:=jw x i;have ey:=jw y i;have lx:=gG x i;have ly:=gG y i;have e:hiD (x+y) i=(hiD x (i+1)+hiD y (i+1))*1073741824+s:=by omega
 refine⟨?_,?_,by omega⟩
 ·unfold dig;rw[e];omega
 ·rw[fP,e];omega
def mV (x i c:Nat):Prop:=hiD (x*10) i=hiD x i*10+c∧c<10
theorem mV.zero (x:Nat):mV x 0 0:=⟨by rw[dt,dt];omega,by omega⟩
theorem mV.step {x i c s:Nat} (h:mV x i c) (hs:s=c+dig x i*10):s%1073741824=dig (x*10) i∧mV x (i+1) (s/1073741824):=by
 obtain⟨h1,h2⟩:=h;have ex:=jw x i;have lx:=gG x i;have e:hiD (x*10) i=(hiD x (i+1)*10)*1073741824+s:=by omega
 refine⟨?_,?_,by omega⟩
 ·unfold dig;rw[e];omega
 ·rw[fP,e];omega
open Go.Joins
theorem BC (l:List Int):(Is l).length=l.length:=by unfold Is;rw[List.length_map]
theorem jX {w:World} {ao:Option Addr} {v n:Nat} (h:ar w ao (Is (dgl v n))) {j:Nat} (hj:j<n):∃b off,ao=some ⟨b,off,none⟩∧w.cell? ⟨b,off+j,none⟩=some (I (dig v j:Nat)):=by
 obtain⟨b,off,e,hc⟩:=h.at (i:=j) (by rw[BC,gv];exact hj);refine⟨b,off,e,?_⟩;rw[hc];have:=Ab v n j hj;have hl:j<(dgl v n).length:=by rw[gv];exact hj
 rw[List.getElem?_eq_getElem hl] at this;simp only[Option.some.injEq] at this;unfold Is;rw[List.getElem_map,this]
theorem gX {w:World} {R:Nat} {x y:Value} (h:w.heap[R]? =some (.cells #[x,y] 221 (0,0))) (u v:Value):
  ((w.setCell ⟨R,0,none⟩ u).setCell ⟨R,1,none⟩ v).heap[R]? =some (.cells #[u,v] 221 (0,0))∧Keeps (fun k=>k=R) w ((w.setCell ⟨R,0,none⟩ u).setCell ⟨R,1,none⟩ v):=by
 have h1:=block_setCell (i:=0) h u;have h2:=block_setCell (i:=1) h1 v;refine⟨by rw[h2];simp,(Keeps.setCell (S:=fun k=>k=R) w _ _ rfl).trans (Keeps.setCell (S:=fun k=>k=R) _ _ _ rfl) (fun _ _ h=>h)⟩
theorem bM {w:World} {R:Nat} {x y:Value} (h:w.heap[R]? =some (.cells #[x,y] 221 (0,0))):
  w.cell? ⟨R,0,none⟩=some x∧w.cell? ⟨R,1,none⟩=some y∧w.frozen? ⟨R,0,none⟩=false∧w.frozen? ⟨R,1,none⟩=false∧R<w.heap.size:=by
 refine⟨?_,?_,unfrozen_of_block h 0,unfrozen_of_block h 1,(Array.getElem?_eq_some_iff.1 h).1⟩
 ·rw[cell_of_block h 0];simp
 ·rw[cell_of_block h 1];simp
theorem lY:(Tryz.prog.info? 3).map (fun i=>(i.zero,i.size,i.bytes))=some (some (.int .i64 0),1,8):=by kernel_rfl
def bP:Nat:=1237940039285380274899124224
def Rm (n c:Nat):Prop:=n<=c∧(c:Int)<=9223372036854775807
theorem sK (w:World) (a:Option Addr) (c v n:Nat) (hsl:ar w a (Is (dgl v n))) (h0:hiD v n=0) (hv:v<bP) (hn:n<=10) (hc:Rm n c):
  Calls Tryz.prog 160 #[.slice a n c] w fun e w'=>e= .returned (.slice a (nd v) c)∧New w w':=by
 have HS:=Lib.hid hsl;have H0:=Lib.hid h0;have HV:=Lib.hid hv;obtain⟨hc1,hc2⟩:=hc;clear hsl h0 hv;go_enter Tryz.func160,Tryz.ntmps160;go_wp2_with fail;go_loopw [3] (fun x wr=>∃m:Nat,m<=n∧x= .int .i64 m∧Hid (hiD v m=0)∧New w wr) (fun x _=>(intOf x).toNat)
 case atStart=>exact⟨n,Nat.le_refl _,rfl,H0,New.refl _⟩
 case round=>
  obtain⟨m,hm,rfl,HM,hN⟩:=hrel;cases m with
  |zero=>
   have HD:Hid (nd v=0):=Lib.hid (yX HV.out HM.out (Or.inl rfl)).symm;go_wp2_with fail;go_ret
   exact⟨by rw[HD.out];rfl,hN⟩
  |succ p=>
   obtain⟨b,off,e,q⟩:=jX HS.out (j:=p) (by omega);replace q:=New.cell hN q;subst e;have hb:b<wr.heap.size:=World.block_lt_of_cell? wr _ q;have hlt:=gG v p;have hpI:(p:Int)<(n:Int):=by omega
   have hp1:(0:Int)<(p:Int)+1:=by omega
   have hw:IntKind.i64.wrap ((p:Int)+1-1)=(p:Int):=by rw[IntWalk.i64_in _ (by omega)];omega
   have hpn:(p:Int)+1<=(c:Int):=by omega
   by_cases hz:dig v p=0
   ·have HZ:Hid (hiD v p=0):=Lib.hid (by rw[jw,HM.out,hz]);rw[hz] at q;have q':wr.cell? ⟨b,off+p,none⟩=some (I 0):=q;clear q hz hlt;go_wp2_with fail;go_roundw
    case rel=>exact⟨p,by omega,by first|rfl|(congr 1;omega),HZ,hN⟩
    case measure=>simp[intOf];try omega
   ·have HD:Hid (nd v=p+1):=Lib.hid (yX HV.out HM.out (Or.inr (by simpa using hz))).symm;obtain⟨x,hx⟩:∃x:Int,((dig v p:Nat):Int)=x:=⟨_,rfl⟩
    have hxz:(x==0)=false:=by rw[<-hx];simpa using fun h:dig v p=0=>hz h
    rw[hx] at q;clear hz hlt hx;go_wp2_with fail;go_ret
    exact⟨by rw[HD.out];rfl,hN⟩
theorem zU (w:World) (a b:Option Addr) (c d x y:Nat) (hx:ar w a (Is (dgs x))) (hy:ar w b (Is (dgs y))) (hxy:x+y<bP):
  Calls Tryz.prog 157 #[.slice a (nd x) c,.slice b (nd y) d] w fun e w'=>∃a' c',e= .returned (.slice a' (nd (x+y)) c')∧New w w'∧ar w' a' (Is (dgs (x+y)))∧(∀k,blk a' k->w.heap.size<=k)∧Rm (nd (x+y)) c':=by
 obtain⟨i0,hi0,hz0,hz1,hz2⟩:=info_parts lY;have hnx:=l0 x;have hny:=l0 y;have kO:w.ownsRow w.heap.size 3 1 (.slice none 0 0) 0 (Is (dgl (x+y) 0)):=World.ownsRow_nil _ _ _ _;obtain⟨nx,ex⟩:∃n,nd x=n:=⟨_,rfl⟩
 obtain⟨ny,ey⟩:∃n,nd y=n:=⟨_,rfl⟩
 have hxt:∀j,nx<=j->hiD x j=0∧dig x j=0:=fun j hj=>qC (by unfold bP at hxy;omega) (by omega)
 have hyt:∀j,ny<=j->hiD y j=0∧dig y j=0:=fun j hj=>qC (by unfold bP at hxy;omega) (by omega)
 have HXT:=Lib.hid hxt;have HYT:=Lib.hid hyt;unfold dgs at hx hy;rw[ex] at hx hnx ⊢;rw[ey] at hy hny ⊢;have HX:=Lib.hid hx;have HY:=Lib.hid hy;have HXY:=Lib.hid hxy;clear hx hy hxy hxt hyt ex ey;go_enter Tryz.func157,Tryz.ntmps157;go_wp2_with fail;go_loopw [5,6,7] (fun o k i wr=>∃(j cc:Nat) (ao:Option Addr) (co:Nat),j<=4∧i= .int .i64 j∧k= .int .i64 cc∧o= .slice ao j co∧cc<=1∧Hid (nU x y j cc)∧Hid (wr.ownsRow w.heap.size 3 1 (.slice ao j co) j (Is (dgl (x+y) j)))∧New w wr) (fun _ _ i _=>5-(intOf i).toNat)
 case atStart=>exact⟨0,0,none,0,by omega,rfl,rfl,rfl,by omega,Lib.hid (nU.zero x y),Lib.hid kO,New.refl _⟩
 case round=>
  clear kO;obtain⟨j,cc,ao,co,hj,rfl,rfl,rfl,hcc,HST,HO,hN⟩:=hrel;have hsz:=hN.size;have pD:nx<=j->ny<=j->3<=j->cc=0:=fun h1 h2 h3=>by
   have e1:=(HXT.out j h1).1;have e2:=(HYT.out j h2).1;have e3:=HST.out.1;have e4:hiD (x+y) 3=0:=by rw[mz];have:=HXY.out;unfold bP at this;omega
   have e5:=gT e4 (j-3);rw[show 3+(j-3)=j by omega,e3,e1,e2] at e5;omega
  have hdx:=gG x j;have hdy:=gG y j;obtain⟨s,hs⟩:∃s,cc+dig x j+dig y j=s:=⟨_,rfl⟩
  obtain⟨hp,lX⟩:=HST.out.step hs.symm;have HO2:Hid (Is (dgl (x+y) (j+1))=Is (dgl (x+y) j)++[I ((s%1073741824:Nat):Int)]):=Lib.hid (by rw[lO,<-hp];unfold Is;rw[List.map_append];rfl);have nQ:=Lib.hid lX;have hs2:s/1073741824<=1:=lX.2;have Ai:s%1073741824<1073741824:=Nat.mod_lt _ (by omega);have t1:(s:Int).tmod 1073741824=((s%1073741824:Nat):Int):=by rw[Int.tmod_eq_emod_of_nonneg (by omega)];omega
  have t2:(s:Int).tdiv 1073741824=((s/1073741824:Nat):Int):=by rw[Int.tdiv_eq_ediv_of_nonneg (by omega)];omega
  obtain⟨p,hpp⟩:∃p:Nat,s%1073741824=p:=⟨_,rfl⟩
  obtain⟨q,hqq⟩:∃q:Nat,s/1073741824=q:=⟨_,rfl⟩
  rw[hpp] at t1 HO2 Ai;rw[hqq] at t2 nQ hs2;have w1:IntKind.i64.wrap (p:Int)=(p:Int):=IntWalk.i64_in _ (by omega);have w2:IntKind.i64.wrap (q:Int)=(q:Int):=IntWalk.i64_in _ (by omega);have ka:New wr (wr.alloc (.cells #[I (p:Int)] 3)):=(New.refl wr).alloc _;clear hp lX hpp hqq;have hdd:(j<nx∧j<ny)∨(j<nx∧¬j<ny)∨(¬j<nx∧j<ny)∨(¬j<nx∧¬j<ny∧0<cc)∨(¬j<nx∧¬j<ny∧cc=0):=by omega
  rcases hdd with⟨h1,h2⟩|⟨h1,h2⟩|⟨h1,h2⟩|⟨h1,h2,h3⟩|⟨h1,h2,h3⟩
  ·have hj3:j<3:=by omega
   obtain⟨b1,o1,e1,q1⟩:=jX HX.out (j:=j) h1;replace q1:=New.cell hN q1;subst e1;have l1:b1<wr.heap.size:=World.block_lt_of_cell? wr _ q1;have i1:(j:Int)<(nx:Int):=by omega
   obtain⟨b2,o2,e2,q2⟩:=jX HY.out (j:=j) h2;replace q2:=New.cell hN q2;subst e2;have l2:b2<wr.heap.size:=World.block_lt_of_cell? wr _ q2;have i2:(j:Int)<(ny:Int):=by omega
   obtain⟨s1,hs1⟩:∃s1:Nat,cc+dig x j=s1:=⟨_,rfl⟩
   have w3:IntKind.i64.wrap ((cc:Int)+((dig x j:Nat):Int))=(s1:Int):=by rw[IntWalk.i64_in _ (by omega)];omega
   have w4:IntKind.i64.wrap ((s1:Int)+((dig y j:Nat):Int))=(s:Int):=by rw[IntWalk.i64_in _ (by omega)];omega
   generalize dig x j=dx at q1 w3 hdx;generalize dig y j=dy at q2 w4 hdy;clear hs hs1 hdx hdy;clear pD;go_wp2_with (at_builtin;refine aR rfl _ _ 61 rfl w.heap.size 3 i0 (.int .i64 0) 1 8 Tryz.underlying61 hi0 hz0 hz1 hz2 rfl (by decide) ao j co (Is (dgl (x+y) j)) rfl (ka.owns HO.out) _ 1 1 [I (p:Int)] rfl rfl (ar.lit _ _ _) (cG .i64 [(p:Int)]) (by unfold maxLen;omega) (by omega) (Nat.le_trans hsz ka.size) ?_);intro a2 c2 w2' aK hk _ _;have hN2:New w w2':=New.keeps (hN.trans ka) hk (fun k hk hx=>by have:=(ai HO.out hx).1;omega);have HO3:Hid (w2'.ownsRow w.heap.size 3 1 (.slice a2 (j+1) c2) (j+1) (Is (dgl (x+y) (j+1)))):=Lib.hid (by rw[HO2.out];exact aK);clear aK hk hN ka;go_wp2_with fail;go_roundw
   case rel=>exact⟨j+1,q,a2,c2,by omega,by go_num,by rfl,by rfl,hs2,nQ,HO3,hN2⟩
   case measure=>simp[intOf];omega
  ·have hj3:j<3:=by omega
   obtain⟨b1,o1,e1,q1⟩:=jX HX.out (j:=j) h1;replace q1:=New.cell hN q1;subst e1;have l1:b1<wr.heap.size:=World.block_lt_of_cell? wr _ q1;have i1:(j:Int)<(nx:Int):=by omega
   have i2:¬(j:Int)<(ny:Int):=by omega
   have z2:=(HYT.out j (by omega)).2;have w3:IntKind.i64.wrap ((cc:Int)+((dig x j:Nat):Int))=(s:Int):=by rw[IntWalk.i64_in _ (by omega)];omega
   clear hs z2;generalize dig x j=dx at q1 w3;clear hdx hdy;clear pD;go_wp2_with (at_builtin;refine aR rfl _ _ 61 rfl w.heap.size 3 i0 (.int .i64 0) 1 8 Tryz.underlying61 hi0 hz0 hz1 hz2 rfl (by decide) ao j co (Is (dgl (x+y) j)) rfl (ka.owns HO.out) _ 1 1 [I (p:Int)] rfl rfl (ar.lit _ _ _) (cG .i64 [(p:Int)]) (by unfold maxLen;omega) (by omega) (Nat.le_trans hsz ka.size) ?_);intro a2 c2 w2' aK hk _ _;have hN2:New w w2':=New.keeps (hN.trans ka) hk (fun k hk hx=>by have:=(ai HO.out hx).1;omega);have HO3:Hid (w2'.ownsRow w.heap.size 3 1 (.slice a2 (j+1) c2) (j+1) (Is (dgl (x+y) (j+1)))):=Lib.hid (by rw[HO2.out];exact aK);clear aK hk hN ka;go_wp2_with fail;go_roundw
   case rel=>exact⟨j+1,q,a2,c2,by omega,by go_num,by rfl,by rfl,hs2,nQ,HO3,hN2⟩
   case measure=>simp[intOf];omega
  ·have hj3:j<3:=by omega
   have i1:¬(j:Int)<(nx:Int):=by omega
   have z1:=(HXT.out j (by omega)).2;obtain⟨b2,o2,e2,q2⟩:=jX HY.out (j:=j) h2;replace q2:=New.cell hN q2;subst e2;have l2:b2<wr.heap.size:=World.block_lt_of_cell? wr _ q2;have i2:(j:Int)<(ny:Int):=by omega
   have w4:IntKind.i64.wrap ((cc:Int)+((dig y j:Nat):Int))=(s:Int):=by rw[IntWalk.i64_in _ (by omega)];omega
   clear hs z1;generalize dig y j=dy at q2 w4;clear hdx hdy;clear pD;go_wp2_with (at_builtin;refine aR rfl _ _ 61 rfl w.heap.size 3 i0 (.int .i64 0) 1 8 Tryz.underlying61 hi0 hz0 hz1 hz2 rfl (by decide) ao j co (Is (dgl (x+y) j)) rfl (ka.owns HO.out) _ 1 1 [I (p:Int)] rfl rfl (ar.lit _ _ _) (cG .i64 [(p:Int)]) (by unfold maxLen;omega) (by omega) (Nat.le_trans hsz ka.size) ?_);intro a2 c2 w2' aK hk _ _;have hN2:New w w2':=New.keeps (hN.trans ka) hk (fun k hk hx=>by have:=(ai HO.out hx).1;omega);have HO3:Hid (w2'.ownsRow w.heap.size 3 1 (.slice a2 (j+1) c2) (j+1) (Is (dgl (x+y) (j+1)))):=Lib.hid (by rw[HO2.out];exact aK);clear aK hk hN ka;go_wp2_with fail;go_roundw
   case rel=>exact⟨j+1,q,a2,c2,by omega,by go_num,by rfl,by rfl,hs2,nQ,HO3,hN2⟩
   case measure=>simp[intOf];omega
  ·have hj3:j<3:=by exact Classical.byContradiction fun h=>by have:=pD (by omega) (by omega) (by omega);omega
   have i1:¬(j:Int)<(nx:Int):=by omega
   have z1:=(HXT.out j (by omega)).2;have i2:¬(j:Int)<(ny:Int):=by omega
   have z2:=(HYT.out j (by omega)).2;have i3:(0:Int)<(cc:Int):=by omega
   obtain rfl:cc=s:=by omega
   clear hs z1 z2 hdx hdy;clear pD;go_wp2_with (at_builtin;refine aR rfl _ _ 61 rfl w.heap.size 3 i0 (.int .i64 0) 1 8 Tryz.underlying61 hi0 hz0 hz1 hz2 rfl (by decide) ao j co (Is (dgl (x+y) j)) rfl (ka.owns HO.out) _ 1 1 [I (p:Int)] rfl rfl (ar.lit _ _ _) (cG .i64 [(p:Int)]) (by unfold maxLen;omega) (by omega) (Nat.le_trans hsz ka.size) ?_);intro a2 c2 w2' aK hk _ _;have hN2:New w w2':=New.keeps (hN.trans ka) hk (fun k hk hx=>by have:=(ai HO.out hx).1;omega);have HO3:Hid (w2'.ownsRow w.heap.size 3 1 (.slice a2 (j+1) c2) (j+1) (Is (dgl (x+y) (j+1)))):=Lib.hid (by rw[HO2.out];exact aK);clear aK hk hN ka;go_wp2_with fail;go_roundw
   case rel=>exact⟨j+1,q,a2,c2,by omega,by go_num,by rfl,by rfl,hs2,nQ,HO3,hN2⟩
   case measure=>simp[intOf];omega
  ·clear pD hs hdx hdy t1 t2 w1 w2 HO2 nQ hs2 Ai;subst h3;have hz:hiD (x+y) j=0:=by rw[HST.out.1,(HXT.out j (by omega)).1,(HYT.out j (by omega)).1]
   have ov:Rm j co:=by
    rcases HO.out.2 with⟨h0,h9⟩|⟨gg,cap,cur,hg,hb,_,h5,h6,_⟩
    ·obtain⟨_,e1,e2⟩:=Value.slice.inj h0;unfold Rm;constructor<;>omega
    ·cases hg
     exact⟨h5,by unfold maxLen at h6;omega⟩
   have aK:=ar.of_owns HO.out;have htr:=fun W (n:New wr W)=>sK W ao co (x+y) j (aK.new n) hz HXY.out (by omega) ov
   have dj:Hid (∀w',New wr w'->ar w' ao (Is (dgs (x+y)))∧(∀k,blk ao k->w.heap.size<=k)∧Rm (nd (x+y)) co):=Lib.hid (fun w' n=>by
    have hle:nd (x+y)<=j:=by
     rcases Nat.lt_or_ge j (nd (x+y)) with h|h
     ·have h2:=tQ (v:=x+y) (by have:=HXY.out;unfold bP at this;exact this) (by omega);have:=gT hz (nd (x+y)-1-j);rw[show j+(nd (x+y)-1-j)=nd (x+y)-1 by omega] at this;exact absurd (by unfold dig;rw[this]) h2
     ·exact h
    refine⟨?_,fun k hk=>(ai HO.out hk).1,by unfold Rm at ov ⊢;omega⟩;have:=(aK.new n).take (nd (x+y));unfold dgs;unfold Is at this ⊢;rw[<-List.map_take,rz _ _ _ hle] at this;exact this)
   have i1:¬(j:Int)<(nx:Int):=by omega
   have i2:¬(j:Int)<(ny:Int):=by omega
   clear aK hz ka ov;go_wp2_with fail;refine(htr _ (New.refl _)).mono ?_;rintro e w3 ⟨rfl,n3⟩;go_wp2_with fail;go_ret
   exact⟨ao,co,rfl,hN.trans n3,dj.out _ n3⟩
def fm (w:World) (b:Bool) (v:Nat) (e:Ending) (w':World):Prop:=
 ∃a c,e= .returned (.agg #[.bool b,.slice a (nd v) c])∧New w w'∧ar w' a (Is (dgs v))∧Rm (nd v) c
theorem iw (w:World) (x y:Value):(w.alloc (.cells #[x,y] 221)).heap[w.heap.size]? =some (.cells #[x,y] 221 (0,0)):=heap_alloc_new w _
theorem BR {w:World} {B n c:Nat} {a:Option Addr} {xs:List Value} (h:w.ownsRow B 3 1 (.slice a n c) n xs):Rm n c:=by
 rcases h.2 with⟨h0,h9⟩|⟨gg,cap,cur,hg,hb,_,h5,h6,_⟩
 ·obtain⟨_,e1,e2⟩:=Value.slice.inj h0;unfold Rm;constructor<;>omega
 ·cases hg
  exact⟨h5,by unfold maxLen at h6;omega⟩
def xq (n k:Int) (i:Nat):Prop:=k.natAbs=hiD n.natAbs i∧ -9223372036854775808<=k∧k<=9223372036854775807
theorem xq.step {n k:Int} {i:Nat} (h:xq n k i):xq n (k.tdiv 1073741824) (i+1)∧(k.tmod 1073741824).natAbs=dig n.natAbs i:=by
 have hq:(k.tdiv 1073741824).natAbs=k.natAbs/1073741824:=by rw[Int.natAbs_tdiv];rfl
 have hr:(k.tmod 1073741824).natAbs=k.natAbs%1073741824:=by rw[Int.natAbs_tmod];rfl
 obtain⟨h1,h2,h3⟩:=h;refine⟨⟨by rw[hq,h1,fP],?_⟩,by rw[hr,h1];rfl⟩;omega
theorem iT (w:World) (n:Int) (h0: -9223372036854775808<=n) (h1:n<=9223372036854775807):
  Calls Tryz.prog 149 #[I n] w (fm w (decide (n<0)) n.natAbs):=by
 obtain⟨i0,hi0,hz0,hz1,hz2⟩:=info_parts lY;obtain⟨PO,hPO⟩:∃PO,PO=fm w (decide (n<0)) n.natAbs:=⟨_,rfl⟩
 rw[<-hPO];have HPO:=Lib.hid hPO;obtain⟨bl,hbl⟩:∃b,decide (n<0)=b:=⟨_,rfl⟩
 have HBL:=Lib.hid hbl;have hv:n.natAbs<bP:=by unfold bP;omega
 have HV:=Lib.hid hv;have kO:w.ownsRow w.heap.size 3 1 (.slice none 0 0) 0 (Is (dgl n.natAbs 0)):=World.ownsRow_nil _ _ _ _;have hst:xq n n 0:=⟨by rw[dt],h0,h1⟩
 have Ce:=Lib.hid hst;have hn4:n.natAbs<1237940039285380274899124224:=by omega
 have HN4:=Lib.hid hn4;clear hPO hv hst hn4;go_enter Tryz.func149,Tryz.ntmps149;go_wp2_with fail;go_loopw [0] (fun x wr=>∃(k:Int) (i:Nat) (ao:Option Addr) (co:Nat),x=I k∧i<=3∧Hid (xq n k i)∧Hid (wr.ownsRow w.heap.size 3 1 (.slice ao i co) i (Is (dgl n.natAbs i)))∧Hid (i=0∨dig n.natAbs (i-1)≠0∨k≠0)∧New w wr∧
  Hid (wr.heap[w.heap.size]? =some (.cells #[.bool false,.slice none 0 0] 221 (0,0)))∧Hid (wr.heap[w.heap.size+1]? =some (.cells #[.bool bl,.slice ao i co] 221 (0,0)))) (fun x _=>(intOf x).natAbs)
 case atStart=>
  refine⟨n,0,none,0,rfl,by omega,Ce,Lib.hid ?_,Lib.hid (Or.inl rfl),((New.refl w).alloc _).alloc _,Lib.hid ?_,Lib.hid ?_⟩
  ·exact New.owns (((New.refl w).alloc _).alloc _) kO
  ·exact Keeps.heap (Keeps.alloc (S:=fun _=>False) _ _) (iw w _ _) (fun h=>h)
  ·have h:=iw (w.alloc (.cells #[.bool false,.slice none 0 0] 221)) (.bool bl) (.slice none 0 0);have e:(w.alloc (.cells #[.bool false,.slice none 0 0] 221)).heap.size=w.heap.size+1:=by simp
   rw[e] at h;exact h
 case round=>
  clear kO Ce;obtain⟨k,i,ao,co,rfl,hi,HST,HO,HL,hN,HR,HT⟩:=hrel;obtain⟨r0,r1,f0,f1,hr⟩:=bM HR.out;obtain⟨u0,u1,g0,g1,hu⟩:=bM HT.out;have hsz:=hN.size;by_cases hk:k=0
  ·subst hk;have hz:hiD n.natAbs i=0:=by rw[<-HST.out.1];rfl
   have hnd:i=nd n.natAbs:=yX HN4.out hz (HL.out.elim Or.inl (fun h=>h.elim Or.inr (fun h=>absurd rfl h)));obtain⟨hst,kst⟩:=gX HR.out (.bool bl) (.slice ao i co);obtain⟨q0,q1,y0,y1,hq⟩:=bM hst;have dj:fm w bl n.natAbs (.returned (.agg #[.bool bl,.slice ao i co])) ((wr.setCell ⟨w.heap.size,0,none⟩ (.bool bl)).setCell ⟨w.heap.size,1,none⟩ (.slice ao i co)):=by
    have ho:=lp HO.out kst (fun g hg=>⟨_,_,_,hg▸HR.out,by decide⟩);refine⟨ao,co,by rw[hnd],New.keeps hN kst (fun i hi hx=>by omega),?_,by rw[<-hnd];exact BR HO.out⟩;unfold dgs;rw[<-hnd];exact ar.of_owns ho
   rw[<-HBL.out,<-HPO.out] at dj;rw[HBL.out] at dj;have iU:=Lib.hid dj;clear hst kst hz hnd dj HL HST;go_wp2_with fail;refine bodyPost_ret (v:= .agg #[.bool bl,.slice ao i co]) (by simp[results,Tryz.results149,go_sem,q0,q1,y0,y1,hq]) rfl ?_;exact iU.out
  ·obtain⟨lX,hdg⟩:=HST.out.step;have hlt:=gG n.natAbs i;obtain⟨q,hq⟩:∃q:Int,k.tdiv 1073741824=q:=⟨_,rfl⟩
   obtain⟨x,hx⟩:∃x:Int,k.tmod 1073741824=x:=⟨_,rfl⟩
   rw[hq] at lX;rw[hx] at hdg;have hqb:=lX.2;have hi3:i<3:=by
    rcases Nat.lt_or_ge i 3 with h|h
    ·exact h
    ·have e:=gT (v:=n.natAbs) (j:=3) (by rw[mz];omega) (i-3);rw[show 3+(i-3)=i by omega,<-HST.out.1] at e;exact absurd (by omega) hk
   have hk0:(k==0)=false:=by simpa using hk
   have q3:IntKind.i64.wrap q=q:=IntWalk.i64_in _ (by omega);have q4:IntKind.i64.wrap x=x:=IntWalk.i64_in _ (by omega);obtain⟨p,hp⟩:∃p:Nat,dig n.natAbs i=p:=⟨_,rfl⟩
   have HO2:Hid (Is (dgl n.natAbs (i+1))=Is (dgl n.natAbs i)++[I (p:Int)]):=Lib.hid (by rw[lO,hp];unfold Is;rw[List.map_append];rfl);have HLT:Hid (q.natAbs<k.natAbs):=Lib.hid (by
    have:(k.tdiv 1073741824).natAbs=k.natAbs/1073741824:=by rw[Int.natAbs_tdiv];rfl
    rw[<-hq,this];omega)
   have HL2:Hid (i+1=0∨dig n.natAbs (i+1-1)≠0∨q≠0):=Lib.hid (by
    refine Or.inr ?_;by_cases hd:dig n.natAbs i=0
    ·right
     intro hq0;have e1:=lX.1;rw[hq0] at e1;have e2:=jw n.natAbs i;rw[<-e1,hd,<-HST.out.1] at e2;simp at e2;exact hk e2
    ·exact Or.inl (by simpa using hd))
   have nQ:=Lib.hid lX;rw[hp] at hdg hlt;have ka:New wr (wr.alloc (.cells #[I (p:Int)] 3)):=(New.refl wr).alloc _;have kS:w.heap.size<=(wr.alloc (.cells #[I (p:Int)] 3)).heap.size:=Nat.le_trans hsz ka.size;clear lX hqb hp hk HL HST;by_cases vT:x<0
   ·have hxp:IntKind.i64.wrap (-x)=(p:Int):=by rw[IntWalk.i64_in _ (by omega)];omega
    have dx:decide (x<0)=true:=decide_eq_true vT;clear hdg;go_wp2_with (at_builtin;refine aR rfl _ _ 61 rfl w.heap.size 3 i0 (.int .i64 0) 1 8 Tryz.underlying61 hi0 hz0 hz1 hz2 rfl (by decide) ao i co (Is (dgl n.natAbs i)) rfl ?own _ 1 1 [I (p:Int)] rfl rfl ?lit ?one ?c1 ?c2 ?c3 ?_);case own=>exact ka.owns HO.out
    case lit=>exact ar.lit _ _ _
    case one=>first|exact cG .i64 [(p:Int)]|rfl
    case c1=>unfold maxLen;omega
    case c2=>omega
    case c3=>first|exact kS|(have h:=kS;simp at h ⊢;omega)
    intro a2 c2 w2' aK hk _ _;have yq:¬blk ao w.heap.size:=fun hb=>by
     obtain⟨cur,hc⟩:=j0 HO.out (lq hb);rw[HR.out] at hc;simp at hc
    have yr:¬blk ao (w.heap.size+1):=fun hb=>by
     obtain⟨cur,hc⟩:=j0 HO.out (lq hb);rw[HT.out] at hc;simp at hc
    have hR2:=hk.heap (Keeps.heap ka HR.out (fun h=>h)) yq;have hT2:=hk.heap (Keeps.heap ka HT.out (fun h=>h)) yr;obtain⟨u0',u1',g0',g1',hu'⟩:=bM hT2;have ks:Keeps (fun k=>k=w.heap.size+1) w2' (w2'.setCell ⟨w.heap.size+1,1,none⟩ (.slice a2 (i+1) c2)):=Keeps.setCell w2' _ _ rfl;have hN2:New w w2':=New.keeps (hN.trans ka) hk (fun k hk hx=>by have:=(ai HO.out hx).1;omega);have hN3:New w (w2'.setCell ⟨w.heap.size+1,1,none⟩ (.slice a2 (i+1) c2)):=New.keeps hN2 ks (fun k hk hx=>by omega);have HO3:Hid ((w2'.setCell ⟨w.heap.size+1,1,none⟩ (.slice a2 (i+1) c2)).ownsRow w.heap.size 3 1 (.slice a2 (i+1) c2) (i+1) (Is (dgl n.natAbs (i+1)))):=Lib.hid (by
     have:=lp aK ks (fun g hg=>⟨_,_,_,hg▸hT2,by decide⟩);rw[HO2.out];exact this)
    have HR3:Hid ((w2'.setCell ⟨w.heap.size+1,1,none⟩ (.slice a2 (i+1) c2)).heap[w.heap.size]? =some (.cells #[.bool false,.slice none 0 0] 221 (0,0))):=Lib.hid (ks.heap hR2 (by omega));have HT3:Hid ((w2'.setCell ⟨w.heap.size+1,1,none⟩ (.slice a2 (i+1) c2)).heap[w.heap.size+1]? =some (.cells #[.bool bl,.slice a2 (i+1) c2] 221 (0,0))):=Lib.hid (by rw[block_setCell hT2];simp);have HN3:=Lib.hid hN3;clear aK hk hN ka hR2 hT2 ks hN2 hN3 yq yr r0 r1 f0 f1 hr u0 u1 g0 g1 hu;go_wp2_with fail;go_roundw
    case rel=>exact⟨q,i+1,a2,c2,by first|rfl|trivial,by omega,nQ,HO3,HL2,HN3.out,HR3,HT3⟩
    case measure=>simp only[intOf];exact HLT.out
   ·have hxp:x=(p:Int):=by omega
    rw[hxp] at hx q4;have dx:decide ((p:Int)<0)=false:=decide_eq_false (by omega);clear hxp vT;clear hdg;go_wp2_with (at_builtin;refine aR rfl _ _ 61 rfl w.heap.size 3 i0 (.int .i64 0) 1 8 Tryz.underlying61 hi0 hz0 hz1 hz2 rfl (by decide) ao i co (Is (dgl n.natAbs i)) rfl ?own _ 1 1 [I (p:Int)] rfl rfl ?lit ?one ?c1 ?c2 ?c3 ?_);case own=>exact ka.owns HO.out
    case lit=>exact ar.lit _ _ _
    case one=>first|exact cG .i64 [(p:Int)]|rfl
    case c1=>unfold maxLen;omega
    case c2=>omega
    case c3=>first|exact kS|(have h:=kS;simp at h ⊢;omega)
    intro a2 c2 w2' aK hk _ _;have yq:¬blk ao w.heap.size:=fun hb=>by
     obtain⟨cur,hc⟩:=j0 HO.out (lq hb);rw[HR.out] at hc;simp at hc
    have yr:¬blk ao (w.heap.size+1):=fun hb=>by
     obtain⟨cur,hc⟩:=j0 HO.out (lq hb);rw[HT.out] at hc;simp at hc
    have hR2:=hk.heap (Keeps.heap ka HR.out (fun h=>h)) yq;have hT2:=hk.heap (Keeps.heap ka HT.out (fun h=>h)) yr;obtain⟨u0',u1',g0',g1',hu'⟩:=bM hT2;have ks:Keeps (fun k=>k=w.heap.size+1) w2' (w2'.setCell ⟨w.heap.size+1,1,none⟩ (.slice a2 (i+1) c2)):=Keeps.setCell w2' _ _ rfl;have hN2:New w w2':=New.keeps (hN.trans ka) hk (fun k hk hx=>by have:=(ai HO.out hx).1;omega);have hN3:New w (w2'.setCell ⟨w.heap.size+1,1,none⟩ (.slice a2 (i+1) c2)):=New.keeps hN2 ks (fun k hk hx=>by omega);have HO3:Hid ((w2'.setCell ⟨w.heap.size+1,1,none⟩ (.slice a2 (i+1) c2)).ownsRow w.heap.size 3 1 (.slice a2 (i+1) c2) (i+1) (Is (dgl n.natAbs (i+1)))):=Lib.hid (by
     have:=lp aK ks (fun g hg=>⟨_,_,_,hg▸hT2,by decide⟩);rw[HO2.out];exact this)
    have HR3:Hid ((w2'.setCell ⟨w.heap.size+1,1,none⟩ (.slice a2 (i+1) c2)).heap[w.heap.size]? =some (.cells #[.bool false,.slice none 0 0] 221 (0,0))):=Lib.hid (ks.heap hR2 (by omega));have HT3:Hid ((w2'.setCell ⟨w.heap.size+1,1,none⟩ (.slice a2 (i+1) c2)).heap[w.heap.size+1]? =some (.cells #[.bool bl,.slice a2 (i+1) c2] 221 (0,0))):=Lib.hid (by rw[block_setCell hT2];simp);have HN3:=Lib.hid hN3;clear aK hk hN ka hR2 hT2 ks hN2 hN3 yq yr r0 r1 f0 f1 hr u0 u1 g0 g1 hu;go_wp2_with fail;go_roundw
    case rel=>exact⟨q,i+1,a2,c2,by first|rfl|trivial,by omega,nQ,HO3,HL2,HN3.out,HR3,HT3⟩
    case measure=>simp only[intOf];exact HLT.out
theorem yY (w:World) (v:Nat) (a:Option Addr) (c:Nat) (hs:ar w a (Is (dgs v))) (hc:Rm (nd v) c) (hv:0<nd v):
  Calls Tryz.prog 150 #[.agg #[.bool false,.slice a (nd v) c]] w (fm w true v):=by
 obtain⟨PO,hPO⟩:∃PO,PO=fm w true v:=⟨_,rfl⟩
 rw[<-hPO];have HPO:=Lib.hid hPO;obtain⟨n,hn⟩:∃n,nd v=n:=⟨_,rfl⟩
 have HN:=Lib.hid hn;have HS:=Lib.hid hs;have HC:=Lib.hid hc;rw[hn] at hv ⊢;have hn3:=l0 v;rw[hn] at hn3;have hnI:(0:Int)<(n:Int):=by omega
 clear hPO hn hs hc;go_enter Tryz.func150,Tryz.ntmps150;go_wp2_with fail;refine bodyPost_ret (v:= .agg #[.bool true,.slice a n c]) (by simp[results,Tryz.results150,go_sem]) rfl ?_;rw[HPO.out];refine⟨a,c,by rw[HN.out],((New.refl w).alloc _).alloc _,HS.out.new (((New.refl w).alloc _).alloc _),HC.out⟩
theorem qk (w:World) (x0 x1 y0 y1 z0 z1:Value):
  let X:=((w.alloc (.cells #[x0,x1] 221)).alloc (.cells #[y0,y1] 221)).alloc (.cells #[z0,z1] 221)
  X.heap[w.heap.size]? =some (.cells #[x0,x1] 221 (0,0))∧X.heap[w.heap.size+1]? =some (.cells #[y0,y1] 221 (0,0))∧X.heap[w.heap.size+2]? =some (.cells #[z0,z1] 221 (0,0))∧X.heap.size=w.heap.size+3:=by
 have e1:(w.alloc (.cells #[x0,x1] 221)).heap.size=w.heap.size+1:=by simp
 have e2:((w.alloc (.cells #[x0,x1] 221)).alloc (.cells #[y0,y1] 221)).heap.size=w.heap.size+2:=by simp
 have k2:Keeps (fun _=>False) (w.alloc (.cells #[x0,x1] 221)) ((w.alloc (.cells #[x0,x1] 221)).alloc (.cells #[y0,y1] 221)):=Keeps.alloc _ _;have k3:Keeps (fun _=>False) ((w.alloc (.cells #[x0,x1] 221)).alloc (.cells #[y0,y1] 221)) (((w.alloc (.cells #[x0,x1] 221)).alloc (.cells #[y0,y1] 221)).alloc (.cells #[z0,z1] 221)):=Keeps.alloc _ _;refine⟨k3.heap (k2.heap (iw w _ _) (fun h=>h)) (fun h=>h),k3.heap ?_ (fun h=>h),?_,by simp⟩
 ·have h:=iw (w.alloc (.cells #[x0,x1] 221)) y0 y1;rw[e1] at h;exact h
 ·have h:=iw ((w.alloc (.cells #[x0,x1] 221)).alloc (.cells #[y0,y1] 221)) z0 z1;rw[e2] at h;exact h
theorem sq (w:World) (a b:Option Addr) (c d x y:Nat) (hx:ar w a (Is (dgs x))) (hy:ar w b (Is (dgs y))) (hxy:x+y<bP):
  Calls Tryz.prog 147 #[.agg #[.bool false,.slice a (nd x) c],.agg #[.bool false,.slice b (nd y) d]] w (fm w false (x+y)):=by
 obtain⟨PO,hPO⟩:∃PO,PO=fm w false (x+y):=⟨_,rfl⟩
 rw[<-hPO];have HPO:=Lib.hid hPO;have qD:=fun W (n:New w W)=>zU W a b c d x y (hx.new n) (hy.new n) hxy
 obtain⟨nx,ex⟩:∃n,nd x=n:=⟨_,rfl⟩
 obtain⟨ny,ey⟩:∃n,nd y=n:=⟨_,rfl⟩
 rw[ex,ey] at qD;rw[ex,ey];clear hPO hx hy hxy ex ey;obtain⟨g0,g1,g2,gs⟩:=qk w (.bool false) (.slice a nx c) (.bool false) (.slice b ny d) (.bool false) (.slice none 0 0);have hN0:New w (((w.alloc (.cells #[.bool false,.slice a nx c] 221)).alloc (.cells #[.bool false,.slice b ny d] 221)).alloc (.cells #[.bool false,.slice none 0 0] 221)):=(((New.refl w).alloc _).alloc _).alloc _;have G0:=Lib.hid g0;have G1:=Lib.hid g1;have G2:=Lib.hid g2;have GS:=Lib.hid gs;have HN0:=Lib.hid hN0;clear g0 g1 g2 gs hN0;go_enter Tryz.func147,Tryz.ntmps147;go_wp2_with fail;obtain⟨p0,p1,_,_,pB0⟩:=bM G0.out;obtain⟨p2,p3,_,_,pB1⟩:=bM G1.out;obtain⟨W0,hW0⟩:∃W0,(((w.alloc (.cells #[.bool false,.slice a nx c] 221)).alloc (.cells #[.bool false,.slice b ny d] 221)).alloc (.cells #[.bool false,.slice none 0 0] 221))=W0:=⟨_,rfl⟩
 have HW0:=Lib.hid hW0;rw[hW0] at p0 p1 p2 p3 ⊢;clear pB0 pB1 hW0;have hSX:(fun w':World=>w'.cell? ⟨w.heap.size,0,none⟩=some (.bool false)∧w'.cell? ⟨w.heap.size,1,none⟩=some (.slice a nx c)∧w'.cell? ⟨w.heap.size+1,0,none⟩=some (.bool false)∧w'.cell? ⟨w.heap.size+1,1,none⟩=some (.slice b ny d)) W0.drew:=
  ⟨New.cell ((New.refl W0).drew) p0,New.cell ((New.refl W0).drew) p1,New.cell ((New.refl W0).drew) p2,New.cell ((New.refl W0).drew) p3⟩
 refine aj (fun w':World=>w'.cell? ⟨w.heap.size,0,none⟩=some (.bool false)∧w'.cell? ⟨w.heap.size,1,none⟩=some (.slice a nx c)∧w'.cell? ⟨w.heap.size+1,0,none⟩=some (.bool false)∧w'.cell? ⟨w.heap.size+1,1,none⟩=some (.slice b ny d)) [7,8] (by kernel_rfl) hSX ?_;refine ae 0 hSX ?_;refine ae 1 hSX ?_;refine ae 2 hSX ?_;refine ae 3 hSX ?_;refine ae 4 hSX ?_;refine ae 5 hSX ?_;refine ag 6 ?_;intro K hK;(try simp only[Act.put,sLs])
 go_simp;have n0:New w W0.drew:=by rw[<-HW0.out];exact HN0.out.drew
 refine(qD _ n0).mono ?_;rintro e w5 ⟨a',c',rfl,n5,s5,l5,r5⟩;refine hK _ _ (fun _=>⟨New.cell n5 hSX.1,New.cell n5 hSX.2.1,New.cell n5 hSX.2.2.1,New.cell n5 hSX.2.2.2⟩) ?_;clear hK K hSX p0 p1 p2 p3;refine ag 7 ?_;intro K hK;(try simp only[Act.put,sLs])
 go_simp;refine hK _ _ (fun h=>by cases h) ?_;clear hK K;have g2':w5.heap[w.heap.size+2]? =some (.cells #[.bool false,.slice none 0 0] 221 (0,0)):=Keeps.heap n5 (by rw[<-HW0.out];exact Keeps.heap (Keeps.drew (S:=fun _=>False) _) G2.out (fun h=>h)) (fun h=>h);obtain⟨r0,r1,f0,f1,hB2⟩:=bM g2';obtain⟨nz,ez⟩:∃n,nd (x+y)=n:=⟨_,rfl⟩
 obtain⟨hst,kst⟩:=gX g2' (.bool false) (.slice a' nz c');obtain⟨q0,q1,y0,y1,hq⟩:=bM hst;have dj:fm w false (x+y) (.returned (.agg #[.bool false,.slice a' nz c'])) ((w5.setCell ⟨w.heap.size+2,0,none⟩ (.bool false)).setCell ⟨w.heap.size+2,1,none⟩ (.slice a' nz c')):=by
  refine⟨a',c',by rw[ez],New.keeps (n0.trans n5) kst (fun i hi hx=>by omega),s5.keeps kst (fun ad had hb=>?_),r5⟩;have h1:=l5 ad.block ⟨ad,had,rfl⟩;have h2:W0.drew.heap.size=w.heap.size+3:=by rw[<-HW0.out];exact GS.out
  rw[h2,hb] at h1;omega
 rw[<-HPO.out] at dj;have iU:=Lib.hid dj;rw[ez];clear dj hst kst s5 l5 r5 n5 n0;refine ag 8 ?_;intro K hK;(try simp only[Act.put,sLs])
 go_simp;refine hK _ _ (fun h=>by cases h) ?_;clear hK K;refine av (by kernel_rfl) ?_;(try simp only[Act.put,sLs])
 simp only[Exit.then];go_wp2_with fail;refine bodyPost_ret (v:= .agg #[.bool false,.slice a' nz c']) (by simp[results,Tryz.results147,go_sem,q0,q1,y0,y1,hq]) rfl ?_;exact iU.out
theorem BD (l:List Int) (j:Nat) (p:Int):(Is l).toArray.setIfInBounds j (I p)=(Is (l.set j p)).toArray:=by
 rw[List.setIfInBounds_toArray];unfold Is;rw[List.map_set]
theorem uN {w:World} {B:Nat} {l:List Int} (h:w.heap[B]? =some (.cells (Is l).toArray 3 (0,0))) {j:Nat} {p:Int} (hj:l[j]? =some p):w.cell? ⟨B,j,none⟩=some (I p):=by
 rw[cell_of_block h j];unfold Is;rw[List.getElem?_toArray,List.getElem?_map,hj];rfl
def jG (x n i c:Nat):List Int:=dgl (x*10) i++(c:Int)::List.replicate (n-i) 0
theorem zI (x n i c:Nat):(jG x n i c)[i]? =some (c:Int):=by
 unfold jG;rw[List.getElem?_append_right (by rw[gv];omega),gv,Nat.sub_self];rfl
theorem zJ (x n i c p:Nat):(jG x n i c).set i (p:Int)=jG x n i p:=by
 unfold jG;rw[List.set_append_right _ _ (by rw[gv];omega),gv,Nat.sub_self];rfl
theorem wV (x n i p q:Nat) (hi:i<n) (hp:p=dig (x*10) i):(jG x n i p)[i+1]? =some 0∧(jG x n i p).set (i+1) (q:Int)=jG x n (i+1) q:=by
 obtain⟨m,hm⟩:∃m,n-i=m+1:=⟨n-i-1,by omega⟩
 have e:jG x n i p=dgl (x*10) (i+1)++(0:Int)::List.replicate m 0:=by
  unfold jG;rw[hm,lO,hp,List.replicate_succ];simp
 rw[e];refine⟨?_,?_⟩
 ·rw[List.getElem?_append_right (by rw[gv];omega),gv,Nat.sub_self];rfl
 ·rw[List.set_append_right _ _ (by rw[gv];omega),gv,Nat.sub_self];unfold jG;rw[show n-(i+1)=m by omega];rfl
theorem wU (x n c:Nat) (hc:c<10) (h:mV x n c) (h0:hiD x n=0):jG x n n c=dgl (x*10) (n+1)∧hiD (x*10) (n+1)=0:=by
 have e:hiD (x*10) n=c:=by rw[h.1,h0];omega
 refine⟨?_,by rw[fP,e];omega⟩;unfold jG;rw[lO];have:dig (x*10) n=c:=by unfold dig;rw[e];omega
 rw[this,Nat.sub_self];rfl
def mW (w:World) (X0 X1 X2:Obj) (x nx:Nat) (wr:World) (i cc:Nat):Prop:=
 New w wr∧wr.heap[w.heap.size]? =some X0∧wr.heap[w.heap.size+1]? =some X1∧wr.heap[w.heap.size+2]? =some X2∧wr.heap[w.heap.size+3]? =some (.cells (Is (jG x nx i cc)).toArray 3 (0,0))
theorem mW.new {w wr wr':World} {X0 X1 X2:Obj} {x nx i cc:Nat} (h:mW w X0 X1 X2 x nx wr i cc) (n:New wr wr'):mW w X0 X1 X2 x nx wr' i cc:=
 ⟨h.1.trans n,Keeps.heap n h.2.1 (fun h=>h),Keeps.heap n h.2.2.1 (fun h=>h),Keeps.heap n h.2.2.2.1 (fun h=>h),Keeps.heap n h.2.2.2.2 (fun h=>h)⟩
theorem mW.set {w wr:World} {X0 X1 X2:Obj} {x nx i cc:Nat} (h:mW w X0 X1 X2 x nx wr i cc) (j i' cc':Nat) (p:Int) (hl:(jG x nx i cc).set j p=jG x nx i' cc'):
  mW w X0 X1 X2 x nx (wr.setCell ⟨w.heap.size+3,j,none⟩ (I p)) i' cc':=by
 obtain⟨h0,h1,h2,h3,h4⟩:=h;have ks:Keeps (fun k=>k=w.heap.size+3) wr (wr.setCell ⟨w.heap.size+3,j,none⟩ (I p)):=Keeps.setCell wr _ _ rfl;refine⟨New.keeps h0 ks (fun i hi hx=>by omega),ks.heap h1 (by omega),ks.heap h2 (by omega),ks.heap h3 (by omega),?_⟩;rw[block_setCell h4,BD,hl]
theorem vb (w:World) (a b:Option Addr) (c d x:Nat) (hx:ar w a (Is (dgs x))) (hy:ar w b (Is (dgs 10))) (hxt:x*10<bP):
  Calls Tryz.prog 148 #[.agg #[.bool false,.slice a (nd x) c],.agg #[.bool false,.slice b 1 d]] w (fm w false (x*10)):=by
 obtain⟨PO,hPO⟩:∃PO,PO=fm w false (x*10):=⟨_,rfl⟩
 rw[<-hPO];have HPO:=Lib.hid hPO;clear hPO;obtain⟨i0,hi0,hz0,hz1,hz2⟩:=info_parts lY;have hnx:=l0 x;have CF:dgs 10=[10]:=by decide+kernel
 rw[CF] at hy;obtain⟨b2,o2,eb,y10⟩:=hy.at (i:=0) (by simp);have C7:w.cell? ⟨b2,o2,none⟩=some (I 10):=by simpa using y10
 subst eb;have HXD:Hid (∀j,nd x<=j->hiD x j=0):=Lib.hid (fun j hj=>(qC (by unfold bP at hxt;omega) hj).1);have HXT:=Lib.hid hxt;have HX:=Lib.hid hx;have HY:=Lib.hid C7;unfold dgs at HX;clear hxt hx hy y10 C7 CF;by_cases hz:nd x=0
 ·have hx0:x=0:=by have:=HXD.out 0 (by omega);rwa [dt] at this
  subst hx0;rw[hz];go_enter Tryz.func148,Tryz.ntmps148;go_wp2_with fail;refine bodyPost_ret (v:= .agg #[.bool false,.slice none 0 0]) (by simp[results,Tryz.results148,go_sem]) rfl ?_;rw[HPO.out];exact⟨none,0,rfl,(((New.refl w).alloc _).alloc _).alloc _,ar.nil _ _,by show 0<=0;omega,by show(0:Int)<=_;omega⟩
 ·obtain⟨nx,ex⟩:∃n,nd x=n:=⟨_,rfl⟩
  rw[ex] at hz hnx HX HXD ⊢;have EH:((nx:Int)==0)=false:=by simpa using fun h:(nx:Int)=0=>hz (by omega)
  have gd:0<nx:=by omega
  clear ex;obtain⟨g0,g1,g2,gs⟩:=qk w (.bool false) (.slice a nx c) (.bool false) (.slice (some ⟨b2,o2,none⟩) 1 d) (.bool false) (.slice none 0 0);obtain⟨A0,hA0⟩:∃A,(Is (jG x nx 0 0)).toArray=A:=⟨_,rfl⟩
  have hmk:∀W:World,(Instr.makeSlice 61 (.int .i64 ((nx:Int)+1)) (.int .i64 ((nx:Int)+1))).run Tryz.prog W= .ok (.slice (some ⟨W.heap.size,0,none⟩) (nx+1) (nx+1)) (W.alloc (.cells A0 3)):=fun W=>by
   have h:=run_make_row' (P:=Tryz.prog) 61 3 (.int .i64 0) 8 Tryz.underlying61 lY rfl .i64 .i64 (nx+1) (by omega) (by omega) W;have e:madeCells #[.int .i64 0] (nx+1)=A0:=by
    rw[<-hA0];apply Array.toList_inj.1;rw[toList_madeCells_one];unfold jG;rw[show nx-0=nx by omega];simp[dgl,Is,List.replicate_succ]
   rw[e] at h;exact h
  have hN3:New w ((((w.alloc (.cells #[.bool false,.slice a nx c] 221)).alloc (.cells #[.bool false,.slice (some ⟨b2,o2,none⟩) 1 d] 221)).alloc (.cells #[.bool false,.slice none 0 0] 221)).alloc (.cells A0 3)):=((((New.refl w).alloc _).alloc _).alloc _).alloc _;have kz:New (((w.alloc (.cells #[.bool false,.slice a nx c] 221)).alloc (.cells #[.bool false,.slice (some ⟨b2,o2,none⟩) 1 d] 221)).alloc (.cells #[.bool false,.slice none 0 0] 221)) ((((w.alloc (.cells #[.bool false,.slice a nx c] 221)).alloc (.cells #[.bool false,.slice (some ⟨b2,o2,none⟩) 1 d] 221)).alloc (.cells #[.bool false,.slice none 0 0] 221)).alloc (.cells A0 3)):=(New.refl _).alloc _;have G0:=Lib.hid (Keeps.heap kz g0 (fun h=>h));have G1:=Lib.hid (Keeps.heap kz g1 (fun h=>h));have G2:=Lib.hid (Keeps.heap kz g2 (fun h=>h));have GB:Hid (((((w.alloc (.cells #[.bool false,.slice a nx c] 221)).alloc (.cells #[.bool false,.slice (some ⟨b2,o2,none⟩) 1 d] 221)).alloc (.cells #[.bool false,.slice none 0 0] 221)).alloc (.cells A0 3)).heap[w.heap.size+3]? =some (.cells (Is (jG x nx 0 0)).toArray 3 (0,0))):=Lib.hid (by
   have h:=heap_alloc_new (((w.alloc (.cells #[.bool false,.slice a nx c] 221)).alloc (.cells #[.bool false,.slice (some ⟨b2,o2,none⟩) 1 d] 221)).alloc (.cells #[.bool false,.slice none 0 0] 221)) (.cells A0 3);rw[gs] at h;rw[hA0];exact h)
  have HN3:=Lib.hid hN3;clear hA0 g0 g1 g2 gs hN3 kz;go_enter Tryz.func148,Tryz.ntmps148;have HT0:Hid (mW w (.cells #[.bool false,.slice a nx c] 221 (0,0)) (.cells #[.bool false,.slice (some ⟨b2,o2,none⟩) 1 d] 221 (0,0)) (.cells #[.bool false,.slice none 0 0] 221 (0,0)) x nx ((((w.alloc (.cells #[.bool false,.slice a nx c] 221)).alloc (.cells #[.bool false,.slice (some ⟨b2,o2,none⟩) 1 d] 221)).alloc (.cells #[.bool false,.slice none 0 0] 221)).alloc (.cells A0 3)) 0 0):=Lib.hid ⟨HN3.out,G0.out,G1.out,G2.out,GB.out⟩;obtain⟨TS,hTS⟩:∃TS,mW w (.cells #[.bool false,.slice a nx c] 221 (0,0)) (.cells #[.bool false,.slice (some ⟨b2,o2,none⟩) 1 d] 221 (0,0)) (.cells #[.bool false,.slice none 0 0] 221 (0,0)) x nx=TS:=⟨_,rfl⟩
  rw[hTS] at HT0;have HTS:=Lib.hid hTS;clear hTS HN3 G0 G1 G2 GB;go_wp2_with fail;go_loopw [6] (fun xi wr=>∃i cc:Nat,i<=nx∧xi= .int .i64 i∧cc<10∧Hid (mV x i cc)∧Hid (TS wr i cc)) (fun xi _=>nx-(intOf xi).toNat)
  case atStart=>exact⟨0,0,by omega,rfl,by omega,Lib.hid (mV.zero x),HT0⟩
  case round=>
   clear HT0 hmk;obtain⟨i,cc,hi,rfl,hcc,HST,HT⟩:=hrel;have hT:=HT.out;rw[<-HTS.out] at hT;obtain⟨hN,g0,g1,g2,gB⟩:=id hT;obtain⟨p00,p01,_,_,pB0⟩:=bM g0;obtain⟨p10,p11,_,_,pB1⟩:=bM g1;have qc:=uN gB (zI x nx i cc);have zc:=unfrozen_of_block gB i;have zc1:=unfrozen_of_block gB (i+1);have hlB:w.heap.size+3<wr.heap.size:=World.block_lt_of_cell? wr _ qc;by_cases hin:i<nx
   ·obtain⟨bx,ox,ea,qa⟩:=jX HX.out (j:=i) hin;have qa':=New.cell hN qa;have qb':=New.cell hN HY.out;subst ea;have la:=World.block_lt_of_cell? wr _ qa';have lb:=World.block_lt_of_cell? wr _ qb';have hdl:=gG x i;obtain⟨s,hs⟩:∃s,cc+dig x i*10=s:=⟨_,rfl⟩
    obtain⟨hp,lX⟩:=HST.out.step hs.symm;obtain⟨dx,hdx⟩:∃dx,dig x i=dx:=⟨_,rfl⟩
    rw[hdx] at qa' hdl hs;have w1:IntKind.i64.wrap ((dx:Int)*10)=((dx*10:Nat):Int):=by rw[IntWalk.i64_in _ (by omega)];omega
    obtain⟨d10,CG⟩:∃z,dx*10=z:=⟨_,rfl⟩
    rw[CG] at w1 hs;have w2:IntKind.i64.wrap ((cc:Int)+(d10:Int))=(s:Int):=by rw[IntWalk.i64_in _ (by omega)];omega
    have Ai:s%1073741824<1073741824:=Nat.mod_lt _ (by omega);have t1:(s:Int).tmod 1073741824=((s%1073741824:Nat):Int):=by rw[Int.tmod_eq_emod_of_nonneg (by omega)];omega
    have t2:(s:Int).tdiv 1073741824=((s/1073741824:Nat):Int):=by rw[Int.tdiv_eq_ediv_of_nonneg (by omega)];omega
    have CZ:s/1073741824<10:=lX.2;have hsb:(s:Int)<=11000000000:=by omega
    obtain⟨p,hpp⟩:∃p:Nat,s%1073741824=p:=⟨_,rfl⟩
    obtain⟨q,hqq⟩:∃q:Nat,s/1073741824=q:=⟨_,rfl⟩
    rw[hpp] at t1 hp Ai;rw[hqq] at t2 lX CZ;have w3:IntKind.i64.wrap (p:Int)=(p:Int):=IntWalk.i64_in _ (by omega);have w4:IntKind.i64.wrap (q:Int)=(q:Int):=IntWalk.i64_in _ (by omega);have w5:IntKind.i64.wrap (s:Int)=(s:Int):=IntWalk.i64_in _ (by omega);have HP:=Lib.hid hp;have nQ:=Lib.hid lX;have hiI:(i:Int)<(nx:Int):=by omega
    have hdr:∀z,TS ((wr.drewN z).setCell ⟨w.heap.size+3,i,none⟩ (I (p:Int))) i p:=fun z=>by
     rw[<-HTS.out];exact(hT.new ((New.refl wr).drewN z)).set i i p (p:Int) (zJ x nx i cc p)
    have HDR:=Lib.hid hdr;clear hs CG hdl lX hp hdx qa hpp hqq hdr hT g0 g1 g2 gB HT;go_wp2_with fail;obtain⟨wo,rfl⟩:∃wo:World,wo=wr:=⟨_,rfl⟩
    go_loopw [7,8] (fun xc xk wr=>∃kk:Nat,xk= .int .i64 kk∧((kk=0∧xc=I 0∧wr=wo)∨(kk=1∧xc=I q∧Hid (TS wr i p)))) (fun _ xk _=>1-(intOf xk).toNat)
    case atStart=>exact⟨0,rfl,Or.inl ⟨rfl,rfl,rfl⟩⟩
    case round=>
     obtain⟨kk,rfl,⟨rfl,rfl,rfl⟩|⟨rfl,rfl,HT⟩⟩:=hrel
     ·go_wp2_with fail;go_quiet (fail)
      go_wp2_with fail;go_roundw
      case rel=>exact⟨1,by go_num,Or.inr ⟨rfl,rfl,Lib.hid (HDR.out _)⟩⟩
      case measure=>simp[intOf]
     ·have hT:=HT.out;rw[<-HTS.out] at hT;obtain⟨hN2,g0,g1,g2,gB⟩:=id hT;obtain⟨k10,k11,_,_,kB1⟩:=bM g1;obtain⟨hn0,hn1⟩:=wV x nx i p q hin HP.out;have kc:=uN gB hn0;have zc1:=unfrozen_of_block gB (i+1);have Eo:w.heap.size+3<wr.heap.size:=World.block_lt_of_cell? wr _ kc;have w6:IntKind.i64.wrap ((i:Int)+1)=(i:Int)+1:=IntWalk.i64_in _ (by omega);have oy:∀z,TS ((wr.drewN z).setCell ⟨w.heap.size+3,i+1,none⟩ (I (q:Int))) (i+1) q:=fun z=>by
       rw[<-HTS.out];exact(hT.new ((New.refl wr).drewN z)).set (i+1) (i+1) q (q:Int) hn1
      have AW:TS (wr.drew.setCell ⟨w.heap.size+3,i+1,none⟩ (I (q:Int))) (i+1) q:=by
       rw[<-HTS.out];exact(hT.new ((New.refl wr).drew)).set (i+1) (i+1) q (q:Int) hn1
      have Dk:=Lib.hid oy;have Cd:=Lib.hid AW;clear hT g0 g1 g2 gB hn0 hn1 oy AW HDR p00 p01 pB0 p10 p11 pB1 qc zc hlB qa' la qb' lb;go_wp2_with fail;have hSX:(fun w':World=>w'.cell? ⟨w.heap.size+1,1,none⟩=some (.slice (some ⟨b2,o2,none⟩) 1 d)∧w'.cell? ⟨w.heap.size+3,i+1,none⟩=some (I 0)) wr.drew:=⟨New.cell ((New.refl wr).drew) k11,New.cell ((New.refl wr).drew) kc⟩
      refine aj (fun w':World=>w'.cell? ⟨w.heap.size+1,1,none⟩=some (.slice (some ⟨b2,o2,none⟩) 1 d)∧w'.cell? ⟨w.heap.size+3,i+1,none⟩=some (I 0)) [17] (by kernel_rfl) hSX ?_;refine ae 0 hSX ?_;refine ae 1 hSX ?_;refine ae 2 hSX ?_;refine ae 3 hSX ?_;refine ae 4 hSX ?_;refine ae 5 hSX ?_;refine ae 6 hSX ?_;refine ae 7 hSX ?_;refine ae 8 hSX ?_;refine ae 9 hSX ?_;refine ae 10 hSX ?_;refine ae 11 hSX ?_;refine aS 12 (by kernel_rfl) (by kernel_rfl) (by kernel_rfl) (by kernel_rfl) (by kernel_rfl) hSX ?_;intro oi ho;simp only[sLq] at ho;subst ho;refine⟨?_,fun _ _ _ h=>h,Or.inl ⟨by rfl,?_⟩,?_⟩;rotate_left 1
      ·(intro wS hSw;(try dsimp only at hSw);go_simp;rw[if_pos (by omega)])
      simp only[Act.put,sLs];refine ae 13 hSX ?_;refine ae 14 hSX ?_;refine ae 15 hSX ?_;refine aS 16 (by kernel_rfl) (by kernel_rfl) (by kernel_rfl) (by kernel_rfl) (by kernel_rfl) hSX ?_;intro oi ho;simp only[sLq] at ho;subst ho;refine⟨?_,fun _ _ _ h=>h,Or.inl ⟨by rfl,?_⟩,?_⟩;rotate_left 1
      ·(intro wS hSw;(try dsimp only at hSw);go_simp;rw[if_pos (by omega)])
      simp only[Act.put,sLs];refine ag 17 ?_;intro K hK;(try simp only[Act.put,sLs])
      go_simp;refine hK _ _ (fun h=>by cases h) ?_;clear hK K;refine av (by kernel_rfl) ?_;(try simp only[Act.put,sLs])
      (try simp only[Exit.then])
      clear hSX k10 k11 kc zc1;go_wp2_with fail;go_roundw
      case rel=>exact⟨i+1,q,by omega,by go_num,CZ,nQ,Lib.hid (by first|exact Cd.out|exact Dk.out _)⟩
      case measure=>simp[intOf];omega
   ·have hie:i=nx:=by omega
    subst hie;have hz:hiD x i=0:=HXD.out i (Nat.le_refl _);obtain⟨hd1,hd2⟩:=wU x i cc hcc HST.out hz;rw[hd1] at gB;have hsl:ar wr (some ⟨w.heap.size+3,0,none⟩) (Is (dgl (x*10) (i+1))):=ar.block gB;have htr:=fun W (n:New wr W)=>sK W (some ⟨w.heap.size+3,0,none⟩) (i+1) (x*10) (i+1) (hsl.new n) hd2 HXT.out (by omega) (by unfold Rm;constructor<;>omega)
    obtain⟨nz,ez⟩:∃n,nd (x*10)=n:=⟨_,rfl⟩
    have hle:nz<=i+1:=by
     rw[<-ez];rcases Nat.lt_or_ge (i+1) (nd (x*10)) with h|h
     ·have h2:=tQ (v:=x*10) (by have:=HXT.out;unfold bP at this;exact this) (by omega);have:=gT hd2 (nd (x*10)-1-(i+1));rw[show i+1+(nd (x*10)-1-(i+1))=nd (x*10)-1 by omega] at this;exact absurd (by unfold dig;rw[this]) h2
     ·exact h
    have HSL:=Lib.hid hsl;have HN:=Lib.hid hN;have HG2:=Lib.hid g2;have HEZ:=Lib.hid ez;rw[ez] at htr;have hdi:¬(i:Int)<(i:Int):=by omega
    clear hsl hT g0 g1 g2 gB hd1 hd2 hz hN ez HT HST qc zc zc1 hcc;go_wp2_with fail;have hSX:(fun w':World=>w'.cell? ⟨w.heap.size,0,none⟩=some (.bool false)∧w'.cell? ⟨w.heap.size+1,0,none⟩=some (.bool false)) wr.drew:=⟨New.cell ((New.refl wr).drew) p00,New.cell ((New.refl wr).drew) p10⟩
    refine aj (fun w':World=>w'.cell? ⟨w.heap.size,0,none⟩=some (.bool false)∧w'.cell? ⟨w.heap.size+1,0,none⟩=some (.bool false)) [7,8] (by kernel_rfl) hSX ?_;refine ae 0 hSX ?_;refine ae 1 hSX ?_;refine ae 2 hSX ?_;refine ae 3 hSX ?_;refine ae 4 hSX ?_;refine ae 5 hSX ?_;refine ag 6 ?_;intro K hK;(try simp only[Act.put,sLs])
    go_simp;refine(htr _ ((New.refl wr).drew)).mono ?_;rintro e w5 ⟨rfl,n5⟩;refine hK _ _ (fun _=>⟨New.cell n5 hSX.1,New.cell n5 hSX.2⟩) ?_;clear hK K hSX p00 p01 p10 p11 pB0 pB1;refine ag 7 ?_;intro K hK;(try simp only[Act.put,sLs])
    go_simp;refine hK _ _ (fun h=>by cases h) ?_;clear hK K;have n5':New wr w5:=((New.refl wr).drew).trans n5;have g2':=Keeps.heap n5' HG2.out (fun h=>h);obtain⟨r0,r1,f0,f1,hB2⟩:=bM g2';obtain⟨hst,kst⟩:=gX g2' (.bool false) (.slice (some ⟨w.heap.size+3,0,none⟩) nz (i+1));obtain⟨q0,q1,y0,y1,hq⟩:=bM hst;have dj:fm w false (x*10) (.returned (.agg #[.bool false,.slice (some ⟨w.heap.size+3,0,none⟩) nz (i+1)])) ((w5.setCell ⟨w.heap.size+2,0,none⟩ (.bool false)).setCell ⟨w.heap.size+2,1,none⟩ (.slice (some ⟨w.heap.size+3,0,none⟩) nz (i+1))):=by
     refine⟨_,_,by rw[HEZ.out],New.keeps (HN.out.trans n5') kst (fun i hi hx=>by omega),?_,by rw[HEZ.out];unfold Rm;constructor<;>omega⟩;have h:=((HSL.out.new n5').keeps kst (fun ad had hb=>by cases had;simp only at hb;omega)).take nz;unfold dgs;rw[HEZ.out];unfold Is at h ⊢;rw[<-List.map_take,rz _ _ _ hle] at h;exact h
    rw[<-HPO.out] at dj;have iU:=Lib.hid dj;clear dj hst kst n5 n5' htr;refine ag 8 ?_;intro K hK;(try simp only[Act.put,sLs])
    go_simp;refine hK _ _ (fun h=>by cases h) ?_;clear hK K;refine av (by kernel_rfl) ?_;(try simp only[Act.put,sLs])
    simp only[Exit.then];go_wp2_with fail;refine bodyPost_ret (v:= .agg #[.bool false,.slice (some ⟨w.heap.size+3,0,none⟩) nz (i+1)]) (by simp[results,Tryz.results148,go_sem,q0,q1,y0,y1,hq]) rfl ?_;exact iU.out
def jM (x y:Nat):Int:=if x<y then-1 else if x=y then 0 else 1
theorem AX {x y:Nat} (hx:x<bP) (hy:y<bP) (h:nd x<nd y):x<y:=by
 unfold bP at hx hy;unfold nd at h;split at h
 ·split at h
  ·omega
  ·omega
 ·split at h
  ·split at h
   ·omega
   ·split at h<;>omega
  ·split at h
   ·split at h
    ·omega
    ·split at h
     ·omega
     ·split at h<;>omega
   ·split at h
    ·omega
    ·split at h
     ·omega
     ·split at h<;>omega
theorem yj {x y p:Nat} (h:hiD x p<hiD y p):x<y:=by
 unfold hiD at h;rcases Nat.lt_or_ge x y with hlt|hge
 ·exact hlt
 ·have:=Nat.div_le_div_right (c:=1073741824^p) hge;omega
theorem Ac {x y p:Nat} (h:hiD x (p+1)=hiD y (p+1)):(dig x p<dig y p->x<y)∧(dig y p<dig x p->y<x)∧(dig x p=dig y p->hiD x p=hiD y p):=by
 have ex:=jw x p;have ey:=jw y p;rw[h] at ex;refine⟨fun hl=>yj (p:=p) (by omega),fun hl=>yj (p:=p) (by omega),fun he=>by omega⟩
theorem zx (w:World) (a b:Option Addr) (c d x y:Nat) (hx:ar w a (Is (dgs x))) (hy:ar w b (Is (dgs y))) (hxt:x<bP) (hyt:y<bP):
  Calls Tryz.prog 158 #[.slice a (nd x) c,.slice b (nd y) d] w fun e w'=>e= .returned (I (jM x y))∧New w w':=by
 obtain⟨r,hr⟩:∃r,jM x y=r:=⟨_,rfl⟩
 have HR:=Lib.hid hr;rw[hr];have hnx:=l0 x;have hny:=l0 y;rcases Nat.lt_trichotomy (nd x) (nd y) with h|h|h
 ·have hxy:=AX hxt hyt h;obtain rfl:r= -1:=by rw[<-hr];unfold jM;rw[if_pos hxy]
  have hI:((nd x:Int)==(nd y:Int))=false:=by simpa using fun h2:(nd x:Int)=(nd y:Int)=>by omega
  have hI2:((nd x:Nat):Int)<((nd y:Nat):Int):=by omega
  generalize nd x=n at hI hI2 hnx ⊢;generalize nd y=m at hI hI2 hny ⊢;clear hr h hxy hx hy HR;go_enter Tryz.func158,Tryz.ntmps158;go_wp2_with fail;go_ret
  exact⟨rfl,New.refl _⟩
 ·have HX:=Lib.hid hx;have HY:=Lib.hid hy;unfold dgs at HX HY;have HXD:Hid (hiD x (nd x)=0):=Lib.hid (my (by unfold bP at hxt;exact hxt));have HYD:Hid (hiD y (nd y)=0):=Lib.hid (my (by unfold bP at hyt;exact hyt));rw[<-h] at HY HYD ⊢;generalize nd x=n at HX HY HXD HYD hnx ⊢;clear h hr hx hy hny;go_enter Tryz.func158,Tryz.ntmps158;have w0:IntKind.i64.wrap ((n:Int)-1)=(n:Int)-1:=IntWalk.i64_in _ (by omega);go_wp2_with fail;go_loopw [5] (fun xi wr=>∃j:Nat,j<=n∧xi= .int .i64 ((j:Int)-1)∧Hid (hiD x j=hiD y j)∧New w wr) (fun xi _=>(intOf xi+1).toNat)
  case atStart=>exact⟨n,Nat.le_refl _,rfl,Lib.hid (by rw[HXD.out,HYD.out]),New.refl _⟩
  case round=>
   obtain⟨j,hj,rfl,HE,hN⟩:=hrel;cases j with
   |zero=>
    have HD:Hid (r=0):=Lib.hid (by
     have:=HE.out;rw[dt,dt] at this;rw[<-HR.out];unfold jM;rw[if_neg (by omega),if_pos this])
    go_wp2_with fail;go_ret
    exact⟨by rw[HD.out];rfl,hN⟩
   |succ p=>
    obtain⟨b1,o1,e1,q1⟩:=jX HX.out (j:=p) (by omega);obtain⟨b2,o2,e2,q2⟩:=jX HY.out (j:=p) (by omega);replace q1:=New.cell hN q1;replace q2:=New.cell hN q2;subst e1 e2;have l1:=World.block_lt_of_cell? wr _ q1;have l2:=World.block_lt_of_cell? wr _ q2;obtain⟨k1,k2,k3⟩:=Ac HE.out;have d1:=gG x p;have d2:=gG y p;have kU:(((p+1:Nat):Int)-1)=(p:Int):=by omega
    rw[kU];have hpI:(p:Int)<(n:Int):=by omega
    have hw:IntKind.i64.wrap ((p:Int)-1)=(p:Int)-1:=IntWalk.i64_in _ (by omega);obtain⟨u,hu⟩:∃u,dig x p=u:=⟨_,rfl⟩
    obtain⟨v,hv⟩:∃v,dig y p=v:=⟨_,rfl⟩
    rw[hu,hv] at k1 k2 k3;rw[hu] at q1;rw[hv] at q2;rcases Nat.lt_trichotomy u v with hc|hc|hc
    ·have HD:Hid (r= -1):=Lib.hid (by rw[<-HR.out];unfold jM;rw[if_pos (k1 hc)]);have c1:decide (u<v)=true:=decide_eq_true hc;clear k1 k2 k3 hu hv kU d1 d2;go_wp2_with fail;go_quiet (fail)
     go_wp2_with fail;go_ret
     exact⟨by rw[HD.out];rfl,by first|exact hN.drewN _|exact hN⟩
    ·subst hc;have HE2:=Lib.hid (k3 rfl);clear k1 k2 k3 hu hv kU d1 d2;go_wp2_with fail;go_quiet (fail)
     go_wp2_with fail;go_quiet (fail)
     go_wp2_with fail;go_roundw
     case rel=>exact⟨p,by omega,by first|rfl|(congr 1),HE2,by first|exact(hN.drewN _).drewN _|exact hN.drewN _|exact hN⟩
     case measure=>simp[intOf];try omega
    ·have HD:Hid (r=1):=Lib.hid (by rw[<-HR.out];unfold jM;rw[if_neg (by have:=k2 hc;omega),if_neg (by have:=k2 hc;omega)]);have c1:decide (u<v)=false:=decide_eq_false (by omega);have c2:decide (v<u)=true:=decide_eq_true hc;clear k1 k2 k3 hu hv kU d1 d2;go_wp2_with fail;go_quiet (fail)
     go_wp2_with fail;go_quiet (fail)
     go_wp2_with fail;go_ret
     exact⟨by rw[HD.out];rfl,by first|exact(hN.drewN _).drewN _|exact hN.drewN _|exact hN⟩
 ·have hxy:=AX hyt hxt h;obtain rfl:r=1:=by rw[<-hr];unfold jM;rw[if_neg (by omega),if_neg (by omega)]
  have hI:((nd x:Int)==(nd y:Int))=false:=by simpa using fun h2:(nd x:Int)=(nd y:Int)=>by omega
  have hI2:¬((nd x:Nat):Int)<((nd y:Nat):Int):=by omega
  have hI3:decide (nd x<nd y)=false:=decide_eq_false (by omega);generalize nd x=n at hI hI2 hI3 hnx ⊢;generalize nd y=m at hI hI2 hI3 hny ⊢;clear hr h hxy hx hy HR;go_enter Tryz.func158,Tryz.ntmps158;go_wp2_with fail;go_ret
  exact⟨rfl,New.refl _⟩
def qy (b1:Bool) (x:Nat) (b2:Bool) (y:Nat):Int:=if b1=b2 then(if b1 then-(jM x y) else jM x y) else(if b1 then-1 else 1)
theorem xJ (x y:Nat): -1<=jM x y∧jM x y<=1:=by
 unfold jM;split
 ·omega
 ·split<;>omega
theorem kp (w:World) (b1 b2:Bool) (a b:Option Addr) (c d x y:Nat) (hx:ar w a (Is (dgs x))) (hy:ar w b (Is (dgs y))) (hxt:x<bP) (hyt:y<bP):
  Calls Tryz.prog 161 #[.agg #[.bool b1,.slice a (nd x) c],.agg #[.bool b2,.slice b (nd y) d]] w fun e w'=>e= .returned (I (qy b1 x b2 y))∧New w w':=by
 have hsz:=fun W (n:New w W)=>zx W a b c d x y (hx.new n) (hy.new n) hxt hyt
 obtain⟨r,hr⟩:∃r,jM x y=r:=⟨_,rfl⟩
 have hrr:=xJ x y;obtain⟨R,hR⟩:∃R,qy b1 x b2 y=R:=⟨_,rfl⟩
 rw[hR];unfold qy at hR;rw[hr] at hR hsz hrr;have hw:IntKind.i64.wrap (-r)= -r:=IntWalk.i64_in _ (by omega);generalize nd x=n at hsz ⊢;generalize nd y=m at hsz ⊢;have k2:New w ((w.alloc (.cells #[.bool b1,.slice a n c] 221)).alloc (.cells #[.bool b2,.slice b m d] 221)):=((New.refl w).alloc _).alloc _;clear hx hy hr hxt hyt;cases b1 with
 |true=>
  cases b2 with
  |true=>
   obtain rfl:R= -r:=by rw[<-hR];rfl
   clear hR;go_enter Tryz.func161,Tryz.ntmps161;go_wp2_with fail;obtain⟨p0,p1,pB⟩:((w.alloc (.cells #[.bool true,.slice a n c] 221)).alloc (.cells #[.bool true,.slice b m d] 221)).cell? ⟨w.heap.size,0,none⟩=some (.bool true)∧True∧w.heap.size<((w.alloc (.cells #[.bool true,.slice a n c] 221)).alloc (.cells #[.bool true,.slice b m d] 221)).heap.size:=by
    refine⟨?_,trivial,by simp;omega⟩;exact New.cell ((New.refl _).alloc _) (by rw[cell_of_block (iw w _ _) 0];rfl)
   refine(hsz _ k2).mono ?_;rintro e w3 ⟨rfl,n3⟩;replace p0:=New.cell n3 p0;have HN:=Lib.hid (k2.trans n3);have hB3:=Nat.lt_of_lt_of_le pB n3.size;clear k2 n3 hsz;go_wp2_with fail;go_ret
   exact⟨rfl,HN.out⟩
  |false=>
   obtain rfl:R= -1:=by rw[<-hR];rfl
   clear hR hsz;go_enter Tryz.func161,Tryz.ntmps161;go_wp2_with fail;go_ret
   exact⟨rfl,k2⟩
 |false=>
  cases b2 with
  |true=>
   obtain rfl:R=1:=by rw[<-hR];rfl
   clear hR hsz;go_enter Tryz.func161,Tryz.ntmps161;go_wp2_with fail;go_ret
   exact⟨rfl,k2⟩
  |false=>
   obtain rfl:R=r:=by rw[<-hR];rfl
   clear hR;go_enter Tryz.func161,Tryz.ntmps161;go_wp2_with fail;obtain⟨p0,p1,pB⟩:((w.alloc (.cells #[.bool false,.slice a n c] 221)).alloc (.cells #[.bool false,.slice b m d] 221)).cell? ⟨w.heap.size,0,none⟩=some (.bool false)∧True∧w.heap.size<((w.alloc (.cells #[.bool false,.slice a n c] 221)).alloc (.cells #[.bool false,.slice b m d] 221)).heap.size:=by
    refine⟨?_,trivial,by simp;omega⟩;exact New.cell ((New.refl _).alloc _) (by rw[cell_of_block (iw w _ _) 0];rfl)
   refine(hsz _ k2).mono ?_;rintro e w3 ⟨rfl,n3⟩;replace p0:=New.cell n3 p0;have HN:=Lib.hid (k2.trans n3);have hB3:=Nat.lt_of_lt_of_le pB n3.size;clear k2 n3 hsz;go_wp2_with fail;go_ret
   exact⟨rfl,HN.out⟩
def jx (b:Bool) (v:Nat):Option Int:=if b then(if v<=9223372036854775808 then some (-(v:Int)) else none) else(if v<9223372036854775808 then some (v:Int) else none)
theorem yH (w:World) (a:Option Addr) (c v:Nat) (hs:ar w a (Is (dgs v))) (hv:v<bP) (hgt:9223372036854775808<v):
  Calls Tryz.prog 151 #[.agg #[.bool true,.slice a (nd v) c]] w fun e w'=>e= .returned (.tuple #[I 0,.bool false])∧New w w':=by
 have hnv:=l0 v;have yw:∀W,Calls Tryz.prog 149 #[I (-9223372036854775808)] W (fm W true 9223372036854775808):=fun W=>iT W (-9223372036854775808) (by omega) (by omega)
 have Ah:∀W,Calls Tryz.prog 149 #[I 9223372036854775807] W (fm W false 9223372036854775807):=fun W=>iT W 9223372036854775807 (by omega) (by omega)
 have hc1:=fun W (n:New w W) a2 c2 s2=>kp W true true a a2 c c2 v 9223372036854775808 (hs.new n) s2 hv (by unfold bP;omega)
 have hc2:=fun W (n:New w W) a2 c2 s2=>kp W true false a a2 c c2 v 9223372036854775807 (hs.new n) s2 hv (by unfold bP;omega)
 have v1:qy true v true 9223372036854775808= -(jM v 9223372036854775808):=rfl;have v2:qy true v false 9223372036854775807= -1:=rfl;obtain⟨k1,hk1⟩:∃k1:Int,-(jM v 9223372036854775808)=k1:=⟨_,rfl⟩
 obtain⟨k2,hk2⟩:∃k2:Int,(-1:Int)=k2:=⟨_,rfl⟩
 rw[hk1] at v1;rw[hk2] at v2;have d1:decide (k1<0)=true:=by
  rw[<-hk1];unfold jM;rw[if_neg (by omega),if_neg (by omega)];rfl
 have d2:decide (0<k2)=false:=decide_eq_false (by omega);rw[v1] at hc1;rw[v2] at hc2;clear v1 v2 hk1 hk2;have HS:=Lib.hid hs;unfold dgs at HS;have HXD:Hid (hiD v (nd v)=0):=Lib.hid (my (by unfold bP at hv;exact hv));obtain⟨n,hn⟩:∃n,nd v=n:=⟨_,rfl⟩
 rw[hn] at HS HXD hnv hc1 hc2 ⊢;have w0:IntKind.i64.wrap ((n:Int)-1)=(n:Int)-1:=IntWalk.i64_in _ (by omega);clear hs hn;go_enter Tryz.func151,Tryz.ntmps151;go_wp2_with fail;have g0:=iw w (.bool true) (.slice a n c);obtain⟨p0,p1,_,_,pB⟩:=bM g0;obtain⟨W1,hW1⟩:∃W1,w.alloc (.cells #[.bool true,.slice a n c] 221)=W1:=⟨_,rfl⟩
 have HN1:Hid (New w W1):=Lib.hid (by rw[<-hW1];exact(New.refl w).alloc _);rw[hW1] at p0 p1 pB ⊢;clear hW1 g0;have hS0:(fun w':World=>w'.cell? ⟨w.heap.size,0,none⟩=some (.bool true)∧w'.cell? ⟨w.heap.size,1,none⟩=some (.slice a n c)∧w.heap.size<w'.heap.size) W1.drew:=
  ⟨New.cell ((New.refl W1).drew) p0,New.cell ((New.refl W1).drew) p1,pB⟩
 refine aj (fun w':World=>w'.cell? ⟨w.heap.size,0,none⟩=some (.bool true)∧w'.cell? ⟨w.heap.size,1,none⟩=some (.slice a n c)∧w.heap.size<w'.heap.size) [] (by kernel_rfl) hS0 ?_;have m0:New w W1.drew:=HN1.out.drew;refine ae 0 hS0 ?_;refine ag 1 ?_;intro K hK;(try simp only[Act.put,sLs])
 go_simp;refine(yw _).mono ?_;rintro e w2 ⟨a2,c2,rfl,n2,s2,-⟩;have hS2:(fun w':World=>w'.cell? ⟨w.heap.size,0,none⟩=some (.bool true)∧w'.cell? ⟨w.heap.size,1,none⟩=some (.slice a n c)∧w.heap.size<w'.heap.size) w2:=⟨New.cell n2 hS0.1,New.cell n2 hS0.2.1,Nat.lt_of_lt_of_le hS0.2.2 n2.size⟩
 have m2:=m0.trans n2;refine hK _ _ (fun _=>hS2) ?_;clear hK K hS0 n2;refine ag 2 ?_;intro K hK;(try simp only[Act.put,sLs])
 go_simp;refine(hc1 _ m2 _ _ s2).mono ?_;rintro e w3 ⟨rfl,n3⟩;have hS3:(fun w':World=>w'.cell? ⟨w.heap.size,0,none⟩=some (.bool true)∧w'.cell? ⟨w.heap.size,1,none⟩=some (.slice a n c)∧w.heap.size<w'.heap.size) w3:=⟨New.cell n3 hS2.1,New.cell n3 hS2.2.1,Nat.lt_of_lt_of_le hS2.2.2 n3.size⟩
 have m3:=m2.trans n3;refine hK _ _ (fun _=>hS3) ?_;clear hK K hS2 n3 s2;refine ae 3 hS3 ?_;refine ae 4 hS3 ?_;refine aS 5 (by kernel_rfl) (by kernel_rfl) (by kernel_rfl) (by kernel_rfl) (by kernel_rfl) hS3 ?_;intro oi ho;simp only[sLq] at ho;subst ho;refine⟨undef,fun _ _ _ h=>h,Or.inr ⟨by simp[Region.wanted,yielded,d1],rfl⟩,?_⟩;simp only[Act.put,sLs];refine aS 6 (by kernel_rfl) (by kernel_rfl) (by kernel_rfl) (by kernel_rfl) (by kernel_rfl) hS3 ?_;intro oi ho;simp only[sLq] at ho;subst ho;refine⟨undef,fun _ _ _ h=>h,Or.inr ⟨by simp[Region.wanted,yielded,d1],rfl⟩,?_⟩;simp only[Act.put,sLs];refine aS 7 (by kernel_rfl) (by kernel_rfl) (by kernel_rfl) (by kernel_rfl) (by kernel_rfl) hS3 ?_;intro oi ho;simp only[sLq] at ho;subst ho;refine⟨undef,fun _ _ _ h=>h,Or.inr ⟨by simp[Region.wanted,yielded,d1],rfl⟩,?_⟩;simp only[Act.put,sLs];refine aS 8 (by kernel_rfl) (by kernel_rfl) (by kernel_rfl) (by kernel_rfl) (by kernel_rfl) hS3 ?_;intro oi ho;simp only[sLq] at ho;subst ho;refine⟨undef,fun _ _ _ h=>h,Or.inr ⟨by simp[Region.wanted,yielded,d1],rfl⟩,?_⟩;simp only[Act.put,sLs];refine ae 9 hS3 ?_;refine av (by kernel_rfl) ?_;(try simp only[Act.put,sLs])
 obtain⟨x0,x1,xB⟩:=hS3;have HM:=Lib.hid m3;simp only[Exit.then];go_wp2_with fail;go_ret2
 exact⟨rfl,HM.out⟩
theorem uM (w:World) (b:Bool) (a:Option Addr) (c v:Nat) (hs:ar w a (Is (dgs v))) (hv:v<bP) (hle:v<=9223372036854775808) (hlt:b=false->v<9223372036854775808):
  Calls Tryz.prog 151 #[.agg #[.bool b,.slice a (nd v) c]] w fun e w'=>e= .returned (.tuple #[I (if b then-(v:Int) else(v:Int)),.bool true])∧New w w':=by
 have hnv:=l0 v;have yw:∀W,Calls Tryz.prog 149 #[I (-9223372036854775808)] W (fm W true 9223372036854775808):=fun W=>iT W (-9223372036854775808) (by omega) (by omega)
 have Ah:∀W,Calls Tryz.prog 149 #[I 9223372036854775807] W (fm W false 9223372036854775807):=fun W=>iT W 9223372036854775807 (by omega) (by omega)
 have hc1:=fun W (n:New w W) a2 c2 s2=>kp W b true a a2 c c2 v 9223372036854775808 (hs.new n) s2 hv (by unfold bP;omega)
 have hc2:=fun W (n:New w W) a2 c2 s2=>kp W b false a a2 c c2 v 9223372036854775807 (hs.new n) s2 hv (by unfold bP;omega)
 obtain⟨V,hV⟩:∃V:Int,(if b then-(v:Int) else(v:Int))=V:=⟨_,rfl⟩
 rw[hV];have HV0:=Lib.hid hV;have HLT:=Lib.hid hlt;clear hV;obtain⟨k1,hk1⟩:∃k1:Int,qy b v true 9223372036854775808=k1:=⟨_,rfl⟩
 obtain⟨k2,hk2⟩:∃k2:Int,qy b v false 9223372036854775807=k2:=⟨_,rfl⟩
 have d1:decide (k1<0)=false:=by
  rw[<-hk1];cases b with
  |false=>rfl
  |true=>show decide (-(jM v 9223372036854775808)<0)=false;unfold jM;exact decide_eq_false (by split<;>(try split)<;>omega)
 have d2:decide (0<k2)=false:=by
  rw[<-hk2];cases b with
  |false=>have:=hlt rfl;show decide (0<(if v<9223372036854775807 then-1 else if v=9223372036854775807 then 0 else 1:Int))=false;exact decide_eq_false (by split<;>(try split)<;>omega)
  |true=>rfl
 rw[hk1] at hc1;rw[hk2] at hc2;clear hk1 hk2 hlt;have HS:=Lib.hid hs;unfold dgs at HS;have HXD:Hid (hiD v (nd v)=0):=Lib.hid (my (by unfold bP at hv;exact hv));obtain⟨n,hn⟩:∃n,nd v=n:=⟨_,rfl⟩
 rw[hn] at HS HXD hnv hc1 hc2 ⊢;have w0:IntKind.i64.wrap ((n:Int)-1)=(n:Int)-1:=IntWalk.i64_in _ (by omega);clear hs hn;go_enter Tryz.func151,Tryz.ntmps151;go_wp2_with fail;have g0:=iw w (.bool b) (.slice a n c);obtain⟨p0,p1,_,_,pB⟩:=bM g0;obtain⟨W1,hW1⟩:∃W1,w.alloc (.cells #[.bool b,.slice a n c] 221)=W1:=⟨_,rfl⟩
 have HN1:Hid (New w W1):=Lib.hid (by rw[<-hW1];exact(New.refl w).alloc _);rw[hW1] at p0 p1 pB ⊢;clear hW1 g0;have hS0:(fun w':World=>w'.cell? ⟨w.heap.size,0,none⟩=some (.bool b)∧w'.cell? ⟨w.heap.size,1,none⟩=some (.slice a n c)∧w.heap.size<w'.heap.size) W1.drew:=
  ⟨New.cell ((New.refl W1).drew) p0,New.cell ((New.refl W1).drew) p1,pB⟩
 refine aj (fun w':World=>w'.cell? ⟨w.heap.size,0,none⟩=some (.bool b)∧w'.cell? ⟨w.heap.size,1,none⟩=some (.slice a n c)∧w.heap.size<w'.heap.size) [] (by kernel_rfl) hS0 ?_;have m0:New w W1.drew:=HN1.out.drew;refine ae 0 hS0 ?_;refine ag 1 ?_;intro K hK;(try simp only[Act.put,sLs])
 go_simp;refine(yw _).mono ?_;rintro e w2 ⟨a2,c2,rfl,n2,s2,-⟩;have hS2:(fun w':World=>w'.cell? ⟨w.heap.size,0,none⟩=some (.bool b)∧w'.cell? ⟨w.heap.size,1,none⟩=some (.slice a n c)∧w.heap.size<w'.heap.size) w2:=⟨New.cell n2 hS0.1,New.cell n2 hS0.2.1,Nat.lt_of_lt_of_le hS0.2.2 n2.size⟩
 have m2:=m0.trans n2;refine hK _ _ (fun _=>hS2) ?_;clear hK K hS0 n2;refine ag 2 ?_;intro K hK;(try simp only[Act.put,sLs])
 go_simp;refine(hc1 _ m2 _ _ s2).mono ?_;rintro e w3 ⟨rfl,n3⟩;have hS3:(fun w':World=>w'.cell? ⟨w.heap.size,0,none⟩=some (.bool b)∧w'.cell? ⟨w.heap.size,1,none⟩=some (.slice a n c)∧w.heap.size<w'.heap.size) w3:=⟨New.cell n3 hS2.1,New.cell n3 hS2.2.1,Nat.lt_of_lt_of_le hS2.2.2 n3.size⟩
 have m3:=m2.trans n3;refine hK _ _ (fun _=>hS3) ?_;clear hK K hS2 n3 s2;refine ae 3 hS3 ?_;refine ae 4 hS3 ?_;refine ae 5 hS3 ?_;refine ag 6 ?_;intro K hK;(try simp only[Act.put,sLs])
 go_simp;refine(Ah _).mono ?_;rintro e w4 ⟨a4,c4,rfl,n4,s4,-⟩;have hS4:(fun w':World=>w'.cell? ⟨w.heap.size,0,none⟩=some (.bool b)∧w'.cell? ⟨w.heap.size,1,none⟩=some (.slice a n c)∧w.heap.size<w'.heap.size) w4:=⟨New.cell n4 hS3.1,New.cell n4 hS3.2.1,Nat.lt_of_lt_of_le hS3.2.2 n4.size⟩
 have m4:=m3.trans n4;refine hK _ _ (fun _=>hS4) ?_;clear hK K hS3 n4;refine ag 7 ?_;intro K hK;(try simp only[Act.put,sLs])
 go_simp;refine(hc2 _ m4 _ _ s4).mono ?_;rintro e w5 ⟨rfl,n5⟩;have hS5:(fun w':World=>w'.cell? ⟨w.heap.size,0,none⟩=some (.bool b)∧w'.cell? ⟨w.heap.size,1,none⟩=some (.slice a n c)∧w.heap.size<w'.heap.size) w5:=⟨New.cell n5 hS4.1,New.cell n5 hS4.2.1,Nat.lt_of_lt_of_le hS4.2.2 n5.size⟩
 have m5:=m4.trans n5;refine hK _ _ (fun _=>hS5) ?_;clear hK K hS4 n5 s4;refine ae 8 hS5 ?_;refine ae 9 hS5 ?_;refine av (by kernel_rfl) ?_;(try simp only[Act.put,sLs])
 obtain⟨x0,x1,xB⟩:=hS5;have HM:=Lib.hid m5;simp only[Exit.then];go_wp2_with fail;obtain⟨Wz,hWz⟩:∃Wz:World,Wz=w5:=⟨_,rfl⟩
 rw[<-hWz] at x0 x1 xB HM ⊢;clear hWz;cases b with
 |false=>
  have hlt:=HLT.out rfl;obtain rfl:(v:Int)=V:=HV0.out;go_loopw [4,5] (fun xn xi wr=>∃j:Nat,j<=n∧xi= .int .i64 ((j:Int)-1)∧xn=I ((hiD v j:Nat):Int)∧New Wz wr) (fun _ xi _=>(intOf xi+1).toNat)
  case atStart=>exact⟨n,Nat.le_refl _,rfl,by rw[HXD.out];rfl,New.refl _⟩
  case round=>
   obtain⟨j,hj,rfl,rfl,hN⟩:=hrel;have y0:=New.cell hN x0;have y1:=New.cell hN x1;have yB:=Nat.lt_of_lt_of_le xB hN.size;cases j with
   |zero=>
    have HV:Hid (((hiD v 0:Nat):Int)=(v:Int)):=Lib.hid (by rw[dt]);go_wp2_with fail;go_ret2
    exact⟨by rw[<-HV.out];rfl,HM.out.trans hN⟩
   |succ p=>
    obtain⟨b1,o1,e1,q1⟩:=jX HS.out (j:=p) (by omega);replace q1:=New.cell (HM.out.trans hN) q1;subst e1;have l1:=World.block_lt_of_cell? wr _ q1;have hE:=jw v p;have hD:=gG v p;have hle:hiD v p<=v:=by unfold hiD;exact Nat.div_le_self _ _
    have kU:(((p+1:Nat):Int)-1)=(p:Int):=by omega
    rw[kU];have hpI:(p:Int)<(n:Int):=by omega
    have hw:IntKind.i64.wrap ((p:Int)-1)=(p:Int)-1:=IntWalk.i64_in _ (by omega);obtain⟨u,hu⟩:∃u,dig v p=u:=⟨_,rfl⟩
    obtain⟨h,hh⟩:∃h,hiD v (p+1)=h:=⟨_,rfl⟩
    obtain⟨z,hz⟩:∃z,hiD v p=z:=⟨_,rfl⟩
    rw[hu] at q1 hE hD;rw[hh] at hE ⊢;rw[hz] at hE hle;obtain⟨H,hH⟩:∃H:Int,(h:Int)=H:=⟨_,rfl⟩
    obtain⟨M,hM⟩:∃M:Int,H*1073741824=M:=⟨_,rfl⟩
    rw[hH];have w1:IntKind.i64.wrap (H*1073741824)=M:=by rw[IntWalk.i64_in _ (by omega)];exact hM
    have w2:IntKind.i64.wrap (M+(u:Int))=(z:Int):=by rw[IntWalk.i64_in _ (by omega)];omega
    have HZ:Hid (z=hiD v p):=Lib.hid hz.symm;obtain⟨Z,hZ⟩:∃Z:Int,(z:Int)=Z:=⟨_,rfl⟩
    rw[hZ] at w2;have HZZ:=Lib.hid hZ;clear hu hh hz hE hD hle kU hM hH hZ;go_wp2_with fail;go_roundw
    case rel=>exact⟨p,by omega,by first|rfl|(congr 1),by rw[<-HZ.out,HZZ.out],hN⟩
    case measure=>simp[intOf];try omega
 |true=>
  obtain rfl: -(v:Int)=V:=HV0.out;go_loopw [4,5] (fun xn xi wr=>∃j:Nat,j<=n∧xi= .int .i64 ((j:Int)-1)∧xn=I (-((hiD v j:Nat):Int))∧New Wz wr) (fun _ xi _=>(intOf xi+1).toNat)
  case atStart=>exact⟨n,Nat.le_refl _,rfl,by rw[HXD.out];rfl,New.refl _⟩
  case round=>
   obtain⟨j,hj,rfl,rfl,hN⟩:=hrel;have y0:=New.cell hN x0;have y1:=New.cell hN x1;have yB:=Nat.lt_of_lt_of_le xB hN.size;cases j with
   |zero=>
    have HV:Hid ((-((hiD v 0:Nat):Int))=(-(v:Int))):=Lib.hid (by rw[dt]);go_wp2_with fail;go_ret2
    exact⟨by rw[<-HV.out];rfl,HM.out.trans hN⟩
   |succ p=>
    obtain⟨b1,o1,e1,q1⟩:=jX HS.out (j:=p) (by omega);replace q1:=New.cell (HM.out.trans hN) q1;subst e1;have l1:=World.block_lt_of_cell? wr _ q1;have hE:=jw v p;have hD:=gG v p;have hle:hiD v p<=v:=by unfold hiD;exact Nat.div_le_self _ _
    have kU:(((p+1:Nat):Int)-1)=(p:Int):=by omega
    rw[kU];have hpI:(p:Int)<(n:Int):=by omega
    have hw:IntKind.i64.wrap ((p:Int)-1)=(p:Int)-1:=IntWalk.i64_in _ (by omega);obtain⟨u,hu⟩:∃u,dig v p=u:=⟨_,rfl⟩
    obtain⟨h,hh⟩:∃h,hiD v (p+1)=h:=⟨_,rfl⟩
    obtain⟨z,hz⟩:∃z,hiD v p=z:=⟨_,rfl⟩
    rw[hu] at q1 hE hD;rw[hh] at hE ⊢;rw[hz] at hE hle;obtain⟨H,hH⟩:∃H:Int,(-(h:Int))=H:=⟨_,rfl⟩
    obtain⟨M,hM⟩:∃M:Int,H*1073741824=M:=⟨_,rfl⟩
    rw[hH];have w1:IntKind.i64.wrap (H*1073741824)=M:=by rw[IntWalk.i64_in _ (by omega)];exact hM
    have w2:IntKind.i64.wrap (M-(u:Int))=(-(z:Int)):=by rw[IntWalk.i64_in _ (by omega)];omega
    have HZ:Hid (z=hiD v p):=Lib.hid hz.symm;obtain⟨Z,hZ⟩:∃Z:Int,(-(z:Int))=Z:=⟨_,rfl⟩
    rw[hZ] at w2;have HZZ:=Lib.hid hZ;clear hu hh hz hE hD hle kU hM hH hZ;go_wp2_with fail;go_roundw
    case rel=>exact⟨p,by omega,by first|rfl|(congr 1),by rw[<-HZ.out,HZZ.out],hN⟩
    case measure=>simp[intOf];try omega
theorem yG (w:World) (a:Option Addr) (c v:Nat) (hs:ar w a (Is (dgs v))) (hv:v<bP) (hge:¬v<9223372036854775808):
  Calls Tryz.prog 151 #[.agg #[.bool false,.slice a (nd v) c]] w fun e w'=>e= .returned (.tuple #[I 0,.bool false])∧New w w':=by
 have hnv:=l0 v;have yw:∀W,Calls Tryz.prog 149 #[I (-9223372036854775808)] W (fm W true 9223372036854775808):=fun W=>iT W (-9223372036854775808) (by omega) (by omega)
 have Ah:∀W,Calls Tryz.prog 149 #[I 9223372036854775807] W (fm W false 9223372036854775807):=fun W=>iT W 9223372036854775807 (by omega) (by omega)
 have hc1:=fun W (n:New w W) a2 c2 s2=>kp W false true a a2 c c2 v 9223372036854775808 (hs.new n) s2 hv (by unfold bP;omega)
 have hc2:=fun W (n:New w W) a2 c2 s2=>kp W false false a a2 c c2 v 9223372036854775807 (hs.new n) s2 hv (by unfold bP;omega)
 have v1:qy false v true 9223372036854775808=1:=rfl;have v2:qy false v false 9223372036854775807=(if v<9223372036854775807 then-1 else if v=9223372036854775807 then 0 else 1):=rfl;obtain⟨k1,hk1⟩:∃k1:Int,(1:Int)=k1:=⟨_,rfl⟩
 obtain⟨k2,hk2⟩:∃k2:Int,(if v<9223372036854775807 then-1 else if v=9223372036854775807 then 0 else 1:Int)=k2:=⟨_,rfl⟩
 rw[hk1] at v1;rw[hk2] at v2;have d1:decide (k1<0)=false:=decide_eq_false (by omega);have d2:decide (0<k2)=true:=by
  rw[<-hk2];exact decide_eq_true (by rw[if_neg (by omega),if_neg (by omega)];omega)
 rw[v1] at hc1;rw[v2] at hc2;clear v1 v2 hk1 hk2;have HS:=Lib.hid hs;unfold dgs at HS;have HXD:Hid (hiD v (nd v)=0):=Lib.hid (my (by unfold bP at hv;exact hv));obtain⟨n,hn⟩:∃n,nd v=n:=⟨_,rfl⟩
 rw[hn] at HS HXD hnv hc1 hc2 ⊢;have w0:IntKind.i64.wrap ((n:Int)-1)=(n:Int)-1:=IntWalk.i64_in _ (by omega);clear hs hn;go_enter Tryz.func151,Tryz.ntmps151;go_wp2_with fail;have g0:=iw w (.bool false) (.slice a n c);obtain⟨p0,p1,_,_,pB⟩:=bM g0;obtain⟨W1,hW1⟩:∃W1,w.alloc (.cells #[.bool false,.slice a n c] 221)=W1:=⟨_,rfl⟩
 have HN1:Hid (New w W1):=Lib.hid (by rw[<-hW1];exact(New.refl w).alloc _);rw[hW1] at p0 p1 pB ⊢;clear hW1 g0;have hS0:(fun w':World=>w'.cell? ⟨w.heap.size,0,none⟩=some (.bool false)∧w'.cell? ⟨w.heap.size,1,none⟩=some (.slice a n c)∧w.heap.size<w'.heap.size) W1.drew:=
  ⟨New.cell ((New.refl W1).drew) p0,New.cell ((New.refl W1).drew) p1,pB⟩
 refine aj (fun w':World=>w'.cell? ⟨w.heap.size,0,none⟩=some (.bool false)∧w'.cell? ⟨w.heap.size,1,none⟩=some (.slice a n c)∧w.heap.size<w'.heap.size) [] (by kernel_rfl) hS0 ?_;have m0:New w W1.drew:=HN1.out.drew;refine ae 0 hS0 ?_;refine ag 1 ?_;intro K hK;(try simp only[Act.put,sLs])
 go_simp;refine(yw _).mono ?_;rintro e w2 ⟨a2,c2,rfl,n2,s2,-⟩;have hS2:(fun w':World=>w'.cell? ⟨w.heap.size,0,none⟩=some (.bool false)∧w'.cell? ⟨w.heap.size,1,none⟩=some (.slice a n c)∧w.heap.size<w'.heap.size) w2:=⟨New.cell n2 hS0.1,New.cell n2 hS0.2.1,Nat.lt_of_lt_of_le hS0.2.2 n2.size⟩
 have m2:=m0.trans n2;refine hK _ _ (fun _=>hS2) ?_;clear hK K hS0 n2;refine ag 2 ?_;intro K hK;(try simp only[Act.put,sLs])
 go_simp;refine(hc1 _ m2 _ _ s2).mono ?_;rintro e w3 ⟨rfl,n3⟩;have hS3:(fun w':World=>w'.cell? ⟨w.heap.size,0,none⟩=some (.bool false)∧w'.cell? ⟨w.heap.size,1,none⟩=some (.slice a n c)∧w.heap.size<w'.heap.size) w3:=⟨New.cell n3 hS2.1,New.cell n3 hS2.2.1,Nat.lt_of_lt_of_le hS2.2.2 n3.size⟩
 have m3:=m2.trans n3;refine hK _ _ (fun _=>hS3) ?_;clear hK K hS2 n3 s2;refine ae 3 hS3 ?_;refine ae 4 hS3 ?_;refine ae 5 hS3 ?_;refine ag 6 ?_;intro K hK;(try simp only[Act.put,sLs])
 go_simp;refine(Ah _).mono ?_;rintro e w4 ⟨a4,c4,rfl,n4,s4,-⟩;have hS4:(fun w':World=>w'.cell? ⟨w.heap.size,0,none⟩=some (.bool false)∧w'.cell? ⟨w.heap.size,1,none⟩=some (.slice a n c)∧w.heap.size<w'.heap.size) w4:=⟨New.cell n4 hS3.1,New.cell n4 hS3.2.1,Nat.lt_of_lt_of_le hS3.2.2 n4.size⟩
 have m4:=m3.trans n4;refine hK _ _ (fun _=>hS4) ?_;clear hK K hS3 n4;refine ag 7 ?_;intro K hK;(try simp only[Act.put,sLs])
 go_simp;refine(hc2 _ m4 _ _ s4).mono ?_;rintro e w5 ⟨rfl,n5⟩;have hS5:(fun w':World=>w'.cell? ⟨w.heap.size,0,none⟩=some (.bool false)∧w'.cell? ⟨w.heap.size,1,none⟩=some (.slice a n c)∧w.heap.size<w'.heap.size) w5:=⟨New.cell n5 hS4.1,New.cell n5 hS4.2.1,Nat.lt_of_lt_of_le hS4.2.2 n5.size⟩
 have m5:=m4.trans n5;refine hK _ _ (fun _=>hS5) ?_;clear hK K hS4 n5 s4;refine ae 8 hS5 ?_;refine ae 9 hS5 ?_;refine av (by kernel_rfl) ?_;(try simp only[Act.put,sLs])
 obtain⟨x0,x1,xB⟩:=hS5;have HM:=Lib.hid m5;simp only[Exit.then];go_wp2_with fail;go_ret2
 exact⟨rfl,HM.out⟩
theorem uL (w:World) (b:Bool) (a:Option Addr) (c v:Nat) (hs:ar w a (Is (dgs v))) (hv:v<bP):
  Calls Tryz.prog 151 #[.agg #[.bool b,.slice a (nd v) c]] w fun e w'=>(match jx b v with
   |some n=>e= .returned (.tuple #[I n,.bool true])
   |none=>e= .returned (.tuple #[I 0,.bool false]))∧New w w':=by
 cases b with
 |true=>
  by_cases h:v<=9223372036854775808
  ·have e:jx true v=some (-(v:Int)):=by unfold jx;rw[if_pos rfl,if_pos h]
   rw[e];exact uM w true a c v hs hv h (fun h=>by cases h)
  ·have e:jx true v=none:=by unfold jx;rw[if_pos rfl,if_neg h]
   rw[e];exact yH w a c v hs hv (by omega)
 |false=>
  by_cases h:v<9223372036854775808
  ·have e:jx false v=some (v:Int):=by unfold jx;rw[if_neg (by simp),if_pos h]
   rw[e];exact uM w false a c v hs hv (by omega) (fun _=>h)
  ·have e:jx false v=none:=by unfold jx;rw[if_neg (by simp),if_neg h]
   rw[e];exact yG w a c v hs hv h
end Go.Proofs.YtnedmonlofbahaaGreatDoor
