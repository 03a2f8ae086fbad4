/-
  BdA, BdB, BdC: what is wanted of them.
-/
import Derived.Test.YtnedmonlofbahaaGreatDoorGwG
import Derived.Test.YtnedmonlofbahaaGreatDoorDbl
set_option maxRecDepth 100000
set_option maxHeartbeats 32000000
namespace Go.Proofs.YtnedmonlofbahaaGreatDoor
open Go Go.RowKit Go.Joins
set_option linter.all false
theorem za {l r:List SIt} {s:ByteArray} (h:cv l s≠0):cv (l++r) s=cv l s:=by
 unfold cv at h ⊢;have e:ofK 1 (l++r)=ofK 1 l++ofK 1 r:=by unfold ofK;exact List.filter_append ..
 rw[e,List.findIdx?_append];cases hf:(ofK 1 l).findIdx? (fun x=>decide (x.name=s)) with
 |some i=>simp
 |none=>rw[hf] at h;exact absurd rfl h
theorem zb {l:List SIt} {k:Nat} (hk:k<l.length) {s:ByteArray} (h:cv (l.take k) s=0) (hkd:l[k].kind=1) (hn:l[k].name=s):cv l s=((ofK 1 (l.take k)).length:Int)+1:=by
 have h1:cv (l.take (k+1)) s=((ofK 1 (l.take k)).length:Int)+1:=by rw[mG hk,if_pos hkd,if_pos ⟨h,hn.symm⟩]
 have h2:cv (l.take (k+1)++l.drop (k+1)) s=_:=za (by omega);rw[List.take_append_drop] at h2;rw[h2,h1]
def ofT (g:Gr):Gr:= { g with edges:=g.edges.take 97,ins:=g.ins.take 17,outs:=g.outs.take 17 }
theorem ze {g:Gr} (h1:g.edges.length<=96) (h2:g.ins.length<=16) (h3:g.outs.length<=16):ofT g=g:=by
 unfold ofT;rw[List.take_of_length_le (by omega),List.take_of_length_le (by omega),List.take_of_length_le (by omega)]
theorem xT (g:Gr):bz (ofT g)=bz g:=by
 by_cases h:g.edges.length<=96∧g.ins.length<=16∧g.outs.length<=16
 ·rw[ze h.1 h.2.1 h.2.2]
 ·have e1:(96<(ofT g).edges.length)=(96<g.edges.length):=by unfold ofT;simp only[List.length_take,eq_iff_iff];omega
  have e2:(16<(ofT g).ins.length)=(16<g.ins.length):=by unfold ofT;simp only[List.length_take,eq_iff_iff];omega
  have e3:(16<(ofT g).outs.length)=(16<g.outs.length):=by unfold ofT;simp only[List.length_take,eq_iff_iff];omega
  have f:∀g:Gr,¬(g.edges.length<=96∧g.ins.length<=16∧g.outs.length<=16)->bz g=if aQ g.name=false then(82,0,0,0) else if g.acts.length=0 then(80,0,0,0) else if 32<g.acts.length then(81,1,32,0) else if 96<g.edges.length then(81,2,96,0) else if 16<g.ins.length then(81,3,16,0) else(81,4,16,0):=by
   intro g h;unfold bz;by_cases a:96<g.edges.length
   ·simp only[if_pos a]
   ·by_cases b:16<g.ins.length
    ·simp only[if_pos b]
    ·rw[if_pos (show 16<g.outs.length by omega)]
  have h':¬((ofT g).edges.length<=96∧(ofT g).ins.length<=16∧(ofT g).outs.length<=16):=by
   have:=e1.mp;have:=e2.mp;have:=e3.mp;have:=e1.mpr;have:=e2.mpr;have:=e3.mpr;omega
  rw[f _ h,f _ h'];simp only[e1,e2];rfl
theorem th {g:Gr} (h:(bz g).1=0):ofT g=g:=by
 by_cases h:g.edges.length<=96∧g.ins.length<=16∧g.outs.length<=16
 ·exact ze h.1 h.2.1 h.2.2
 ·rename_i h0;unfold bz at h0;exfalso
  split at h0;· cases h0
  split at h0;· cases h0
  split at h0;· cases h0
  split at h0;· cases h0
  split at h0;· cases h0
  rw[if_pos (by omega)] at h0;cases h0
theorem uf (w:World) (s:Sk) (nm:ByteArray) (hs:SkAt w s) (hl:SLen s):
  Calls Tryz.prog 101 #[s.v,.string nm] w fun e w'=>e= .returned (I (cv s.items nm-1))∧New w w':=by
 have HS:=Lib.hid hs;have hli:=hl.i;obtain⟨si,hsi⟩:∃a,s.ia=a:=⟨_,rfl⟩
 simp only[Sk.v,Sk.cs];rw[hsi];have HSI:=Lib.hid hsi;obtain⟨r,hr⟩:∃r,cv s.items nm-1=r:=⟨_,rfl⟩
 rw[hr];have HR:=Lib.hid hr;clear hs hl hsi hr;go_enter Tryz.func101,Tryz.ntmps101;go_wp2_with fail;have na:New w (w.alloc (.cells #[.string s.name,.slice si s.items.length s.ic] 52)):=(New.refl w).alloc _;have HB:=Lib.hid (heap_alloc_new w (.cells #[.string s.name,.slice si s.items.length s.ic] 52));generalize(w.alloc (.cells #[.string s.name,.slice si s.items.length s.ic] 52))=wb at na HB ⊢;go_loopw [5,6] (fun n j wr=>∃(k:Nat) (m:Nat),k<=s.items.length∧j= .int .i64 k∧n= .int .i64 m∧m<=k∧Hid (m=(ofK 1 (s.items.take k)).length∧cv (s.items.take k) nm=0∧New wb wr)) (fun _ j _=>s.items.length-(intOf j).toNat)
 case atStart=>exact⟨0,0,by omega,rfl,rfl,by omega,Lib.hid ⟨rfl,rfl,New.refl _⟩⟩
 case round=>
  obtain⟨k,m,hk,rfl,rfl,hmk,HM⟩:=hrel;have hNr:=na.trans HM.out.2.2;obtain⟨p0,p1,-,-,hPl⟩:=cR (Keeps.heap HM.out.2.2 HB.out (fun h=>h));by_cases hk1:k<s.items.length
  ·have hkI:(k:Int)<(s.items.length:Int):=by omega
   have hkd:decide (k<s.items.length)=true:=decide_eq_true hk1;obtain⟨b,off,hab,q0,q1,q2,q3,q4,q5,q6,q7,q8,q9,q10⟩:=eu (HS.out.new hNr).sl hk1;have hbw:b<wr.heap.size:=World.block_lt_of_cell? wr _ q0;have e:si=some ⟨b,off,none⟩:=HSI.out.symm.trans hab;subst e;have HT:=Lib.hid (l6 (kd:=1) hk1);have HV:=Lib.hid (mG hk1 nm);have HH:Hid (s.items[k].kind=1->s.items[k].name=nm->r=(m:Int)):=Lib.hid (fun h1 h2=>by rw[<-HR.out,zb hk1 HM.out.2.1 h1 h2,<-HM.out.1];omega);clear hab;generalize s.items[k]=x at q0 q1 q2 q3 q4 q5 q6 q7 q8 q9 q10 HT HH HV;by_cases hkk:x.kind=1
   ·have d1:(x.kind==1)=true:=by simp[hkk]
    have HT2:Hid ((ofK 1 (s.items.take (k+1))).length=m+1):=Lib.hid (by rw[HT.out,if_pos hkk,List.length_append,HM.out.1];rfl);by_cases hnm:x.name=nm
    ·have d2:=nL hnm;have HV9:=Lib.hid (HH.out hkk hnm);clear HH HT HT2 hkk hnm HV;go_wp2_with fail;go_ret
     exact⟨by rw[HV9.out];rfl,hNr⟩
    ·have d2:=qZ hnm;have HV2:Hid (cv (s.items.take (k+1)) nm=0):=Lib.hid (by rw[HV.out,if_pos hkk,if_neg (fun h=>hnm h.2.symm)];exact HM.out.2.1);clear HH HT hkk hnm HV;go_wp2_with fail;go_roundw
     case rel=>exact⟨k+1,m+1,by omega,by go_num,by go_num,by omega,Lib.hid ⟨HT2.out.symm,HV2.out,HM.out.2.2⟩⟩
     case measure=>simp[intOf];omega
   ·have d1:(x.kind==1)=false:=by simp[hkk]
    have HT2:Hid ((ofK 1 (s.items.take (k+1))).length=m):=Lib.hid (by rw[HT.out,if_neg hkk,HM.out.1]);have HV2:Hid (cv (s.items.take (k+1)) nm=0):=Lib.hid (by rw[HV.out,if_neg hkk];exact HM.out.2.1);clear HH HT hkk HV;go_wp2_with fail;go_roundw
    case rel=>exact⟨k+1,m,by omega,by go_num,rfl,by omega,Lib.hid ⟨HT2.out.symm,HV2.out,HM.out.2.2⟩⟩
    case measure=>simp[intOf];omega
  ·have hke:k=s.items.length:=by omega
   have hkd:decide (k<s.items.length)=false:=decide_eq_false hk1;have HV:Hid (r= -1):=Lib.hid (by
    have h1:=HM.out.2.1;rw[hke,List.take_length] at h1;rw[<-HR.out,h1];rfl)
   clear hke hk hk1;go_wp2_with fail;go_ret
   exact⟨by rw[HV.out];rfl,hNr⟩
theorem uc (s:ByteArray) (w:World):Calls Tryz.prog 100 #[.string s] w (Cg w (rc s)):=by
 have gM:∀k,k<11->(w.alloc (.cells wsV 9)).cell? ⟨w.heap.size,k,none⟩=some (.string (ws.getD k ByteArray.empty)):=fun k hk=>by
  rw[World.cell?_alloc_new];exact uw k hk
 have HC:=Lib.hid gM;clear gM;go_enter Tryz.func100,Tryz.ntmps100;go_wp2_with (go_at_call 118;(with_reducible refine(qT _).mono ?_);rintro e w' ⟨rfl,rfl⟩);go_loopw [5] (fun i wr=>∃k:Nat,k<=11∧i= .int .i64 k∧(∀j,j<k->((ws.getD j ByteArray.empty).toList==s.toList)=false)∧wr=w.alloc (.cells wsV 9)) (fun i _=>11-(intOf i).toNat)
 case atStart=>exact⟨0,by omega,rfl,by omega,rfl⟩
 case round=>
  obtain⟨k,hk,rfl,di,rfl⟩:=hrel;have HA:=Lib.hid di;clear di;by_cases hk1:k<11
  ·have hc:=HC.out k hk1;obtain⟨u,hu⟩:∃u,u=ws.getD k ByteArray.empty:=⟨_,rfl⟩
   rw[<-hu] at hc;have HU:=Lib.hid hu;clear hu;go_wp2
   ·have Bz:(u.toList==s.toList)=true:=by assumption
    go_ret2
    have:=m7 (p:=fun u=>u.toList==s.toList) (l:=ws) (k:=k) (by rw[zN];omega) HA.out (by rw[<-HU.out];exact Bz);exact⟨by unfold rc;rw[this];rfl,Keeps.alloc _ _⟩
   ·have hno:(u.toList==s.toList)=false:=by assumption
    go_roundw
    case rel=>
     refine⟨k+1,by omega,by go_num,fun j hj=>?_,(by first|rfl|trivial)⟩;by_cases e:j<k
     ·exact HA.out j e
     ·obtain rfl:j=k:=by omega
      rw[<-HU.out];exact hno
    case measure=>simp[intOf];omega
  ·obtain rfl:k=11:=by omega
   go_wp2
   go_ret2
   have:=lR (p:=fun u=>u.toList==s.toList) (l:=ws) HA.out;exact⟨by unfold rc;rw[this];rfl,Keeps.alloc _ _⟩
structure OfAt (w:World) (s:Sk) (P:Nat) (l:List SIt) (q:Gr) (w':World):Prop where
 gr:GrB w' w.heap.size P q
 ba:q.bare=ofT (bv s.name (cv s.items) l)
 nw:New w w'
 hs:w'.heap[w.heap.size]? =some (.cells s.cs 52 (0,0))
 h1:w'.heap[w.heap.size+1]? =some (.cells zG 26 (0,0))
 hP:w.heap.size+1<P
theorem OfAt.new {w w1 w2:World} {s:Sk} {P:Nat} {l:List SIt} {q:Gr} (h:OfAt w s P l q w1) (k:New w1 w2):OfAt w s P l q w2:=
 ⟨h.gr.new k,h.ba,h.nw.trans k,Keeps.heap k h.hs (fun h=>h),Keeps.heap k h.h1 (fun h=>h),h.hP⟩
theorem OfAt.step {w w1 w':World} {s:Sk} {P:Nat} {l l':List SIt} {q q':Gr} {a:Option Addr} {T:TypeId} (h:OfAt w s P l q w1) (hg:GrB w' w.heap.size P q') (hb:q'.bare=ofT (bv s.name (cv s.items) l'))
  (k:Keeps (fun k=>k=P∨blk a k) w1 w') (hn:New w w') (ht:∀g,blk a g->∃cur,w1.heap[g]? =some (.cells cur T (0,0))) (hT:T≠52∧T≠26):OfAt w s P l' q' w':=by
 have hP:=h.hP;have hh:∀ {b:Nat} {cs:Array Value} {t:TypeId},w1.heap[b]? =some (.cells cs t (0,0))->t≠T->b≠P->w'.heap[b]? =some (.cells cs t (0,0)):=fun hb hne hbP=>k.heap hb (fun hx=>by
  rcases hx with hx|hx
  ·exact hbP hx
  ·obtain⟨cur,hc⟩:=ht _ hx;rw[hb] at hc;simp at hc;exact hne hc.2)
 exact⟨hg,hb,hn,hh h.hs (Ne.symm hT.1) (by omega),hh h.h1 (Ne.symm hT.2) (by omega),hP⟩
theorem mR {α:Type} {l:List α} {x:α} {m:Nat} (h:l.length<m):(l++[x]).take m=l.take m++[x]:=by
 rw[List.take_of_length_le (by simp;omega),List.take_of_length_le (by omega)]
theorem wR {α:Type} {l:List α} {x:α} {m:Nat} (h:m<=l.length):(l++[x]).take m=l.take m:=by
 rw[List.take_append_of_le_length h]
theorem ofB {name:ByteArray} {V:ByteArray->Int} {l:List SIt} {q:Gr} (h:q.bare=ofT (bv name V l)) (it:SIt):
  (it.kind=1->∀(x:GAct) (a':Option Addr) (c':Nat),x.bare=oC it->({ q with aa:=a',ac:=c',acts:=q.acts++[x] } :Gr).bare=ofT (bv name V (l++[it])))∧
  (it.kind=2->q.edges.length<=96->∀(x:GEdge) (a':Option Addr) (c':Nat),x.bare=ll V it->({ q with ea:=a',ec:=c',edges:=q.edges++[x] } :Gr).bare=ofT (bv name V (l++[it])))∧
  (it.kind=3->q.ins.length<=16->∀(x:GPort) (a':Option Addr) (c':Nat),x=v6 V it->({ q with ia:=a',ic:=c',ins:=q.ins++[x] } :Gr).bare=ofT (bv name V (l++[it])))∧
  (it.kind=4->q.outs.length<=16->∀(x:GPort) (a':Option Addr) (c':Nat),x=pF V it->({ q with oa:=a',oc:=c',outs:=q.outs++[x] } :Gr).bare=ofT (bv name V (l++[it])))∧
  ((it.kind=2∧96<q.edges.length∨it.kind=3∧16<q.ins.length∨it.kind=4∧16<q.outs.length∨it.kind<1∨4<it.kind)->q.bare=ofT (bv name V (l++[it]))):=by
 have le:q.edges.length=min 97 (ofK 2 l).length:=by have:=congrArg (fun g:Gr=>g.edges.length) h;simpa[Gr.bare,ofT,bv] using this
 have li:q.ins.length=min 17 (ofK 3 l).length:=by have:=congrArg (fun g:Gr=>g.ins.length) h;simpa[Gr.bare,ofT,bv] using this
 have lo:q.outs.length=min 17 (ofK 4 l).length:=by have:=congrArg (fun g:Gr=>g.outs.length) h;simpa[Gr.bare,ofT,bv] using this
 unfold Gr.bare ofT bv at h ⊢;simp only[Gr.mk.injEq,true_and,and_true] at h ⊢;obtain⟨h0,h1,h2,h3,h4⟩:=h;refine⟨fun hk x a' c' hx=>?_,fun hk hl x a' c' hx=>?_,fun hk hl x a' c' hx=>?_,fun hk hl x a' c' hx=>?_,fun hk=>?_⟩
 ·simp[eh,hk,h0,h1,h2,h3,h4,hx]
 ·simp only[eh,hk,if_true,List.map_append,List.map_cons,List.map_nil,h0,h1,h2,h3,h4,hx];rw[mR (by simp;omega)];simp
 ·simp only[eh,hk,if_true,List.map_append,List.map_cons,List.map_nil,h0,h1,h2,h3,h4,hx];rw[mR (by simp;omega)];simp
 ·simp only[eh,hk,if_true,List.map_append,List.map_cons,List.map_nil,h0,h1,h2,h3,h4,hx];rw[mR (by simp;omega)];simp
 ·rw[h0,h1,h2,h3,h4];simp only[eh,true_and];refine⟨?_,?_,?_,?_⟩
  ·rw[if_neg (by omega)]
  all_goals
   split
   ·rw[List.map_append,List.map_cons,List.map_nil,wR (by rw[List.length_map];omega)]
   ·rfl
theorem AF (w:World) (s:Sk) (hs:SkAt w s) (hl:SLen s) (hkr:∀x∈s.items,1<=x.kind∧x.kind<=4) (hsz:s.items.length*64<=140737488355328) (hnz:∀x∈s.items,x.xs.length*8<=140737488351232):
  Calls Tryz.prog 63 #[s.v] w fun e w'=>∃q:Gr,e= .returned q.v∧GrOwn w' w.heap.size q∧q.bare=ofT (aX s)∧New w w':=by
 have HS:=Lib.hid hs;have HL:=Lib.hid hl;have HKR:=Lib.hid hkr;have HNZ:=Lib.hid hnz;have hli:=hl.i;obtain⟨it1,Bo,ha0,ha1,ha2⟩:=info_parts qK;obtain⟨it2,Bp,he0,he1,he2⟩:=info_parts oz;obtain⟨it3,yk,hp0,hp1,hp2⟩:=info_parts oB;have HWH:=Lib.hid (fun(nm:ByteArray) (W:World) (n:New w W)=>uf W s nm (hs.new n) hl);obtain⟨si,hsi⟩:∃a,s.ia=a:=⟨_,rfl⟩
 simp only[Sk.v,Sk.cs] at HWH ⊢;rw[hsi] at HWH ⊢;have HSI:=Lib.hid hsi;clear hs hl hsi hkr hnz;go_enter Tryz.func63,Tryz.ntmps63;go_wp2_with fail;have na:New w (w.alloc (.cells #[.string s.name,.slice si s.items.length s.ic] 52)):=(New.refl w).alloc _;have ha:(w.alloc (.cells #[.string s.name,.slice si s.items.length s.ic] 52)).heap[w.heap.size]? =some (.cells #[.string s.name,.slice si s.items.length s.ic] 52 (0,0)):=heap_alloc_new w _;have sa:(w.alloc (.cells #[.string s.name,.slice si s.items.length s.ic] 52)).heap.size=w.heap.size+1:=aG _ _;generalize(w.alloc (.cells #[.string s.name,.slice si s.items.length s.ic] 52))=wa at na ha sa ⊢;have nb:New wa (wa.alloc (.cells #[.string ⟨#[]⟩,.slice none 0 0,.slice none 0 0,.slice none 0 0,.slice none 0 0] 26)):=(New.refl wa).alloc _;have hb:(wa.alloc (.cells #[.string ⟨#[]⟩,.slice none 0 0,.slice none 0 0,.slice none 0 0,.slice none 0 0] 26)).heap[wa.heap.size]? =some (.cells #[.string ⟨#[]⟩,.slice none 0 0,.slice none 0 0,.slice none 0 0,.slice none 0 0] 26 (0,0)):=heap_alloc_new wa _;have sb:(wa.alloc (.cells #[.string ⟨#[]⟩,.slice none 0 0,.slice none 0 0,.slice none 0 0,.slice none 0 0] 26)).heap.size=w.heap.size+1+1:=by rw[aG,sa]
 rw[sa] at hb;generalize(wa.alloc (.cells #[.string ⟨#[]⟩,.slice none 0 0,.slice none 0 0,.slice none 0 0,.slice none 0 0] 26))=wb at nb hb sb ⊢;have ks:New wb (wb.alloc (.cells #[.string s.name,.slice none 0 0,.slice none 0 0,.slice none 0 0,.slice none 0 0] 26)):=(New.refl wb).alloc _;have hp:(wb.alloc (.cells #[.string s.name,.slice none 0 0,.slice none 0 0,.slice none 0 0,.slice none 0 0] 26)).heap[wb.heap.size]? =some (.cells #[.string s.name,.slice none 0 0,.slice none 0 0,.slice none 0 0,.slice none 0 0] 26 (0,0)):=heap_alloc_new wb _;generalize(wb.alloc (.cells #[.string s.name,.slice none 0 0,.slice none 0 0,.slice none 0 0,.slice none 0 0] 26))=W2 at ks hp ⊢;rw[sb] at hp;obtain⟨P,hPe⟩:∃P,w.heap.size+1+1=P:=⟨_,rfl⟩
 rw[hPe] at hp ⊢;have HD:Hid (OfAt w s P (s.items.take 0) ⟨s.name,none,0,[],none,0,[],none,0,[],none,0,[]⟩ W2):=Lib.hid ⟨⟨hp,⟨World.ownsRow_nil _ _ _ _,World.ownsRow_nil _ _ _ _,World.ownsRow_nil _ _ _ _,World.ownsRow_nil _ _ _ _,(fun x hx=>by cases hx),(fun x hx=>by cases hx),List.Pairwise.nil,(fun k hk=>by obtain⟨y,hy,_⟩:=hk;cases hy)⟩⟩,rfl,(na.trans nb).trans ks,
  by unfold Sk.cs;rw[HSI.out];exact Keeps.heap (nb.trans ks) ha (fun h=>h),Keeps.heap ks hb (fun h=>h),by omega⟩
 clear ks hp na nb ha hb sa sb hPe;go_loopw [4] (fun j wr=>∃(k:Nat) (q:Gr),k<=s.items.length∧j= .int .i64 k∧Hid (OfAt w s P (s.items.take k) q wr)) (fun j _=>s.items.length-(intOf j).toNat)
 case atStart=>exact⟨0,⟨s.name,none,0,[],none,0,[],none,0,[],none,0,[]⟩,by omega,rfl,HD⟩
 case round=>
  clear HD;obtain⟨k,q,hk,rfl,HD⟩:=hrel;have hsk:=HD.out.hs;unfold Sk.cs at hsk;rw[HSI.out] at hsk;obtain⟨p0,p1,-,-,hPs⟩:=cR hsk;have HSK:=Lib.hid hsk;by_cases hk1:k<s.items.length
  ·have hkI:(k:Int)<(s.items.length:Int):=by omega
   have hkd:decide (k<s.items.length)=true:=decide_eq_true hk1;obtain⟨b,off,hab,q0,q1,q2,q3,q4,q5,q6,q7,q8,q9,q10⟩:=eu (HS.out.new HD.out.nw).sl hk1;have hbw:b<wr.heap.size:=World.block_lt_of_cell? wr _ q0;have e:si=some ⟨b,off,none⟩:=HSI.out.symm.trans hab;subst e;have jN:=HNZ.out _ (List.getElem_mem hk1);have ou:=HKR.out _ (List.getElem_mem hk1);have HXS:=fun W (n:New wr W)=>((HS.out.new HD.out.nw).nx _ (List.getElem_mem hk1)).new n
   have HTK:Hid (s.items.take (k+1)=s.items.take k++[s.items[k]]):=Lib.hid (List.take_succ_eq_append_getElem hk1);have htl:(s.items.take k).length<=k:=by rw[List.length_take];omega
   have HOB:=Lib.hid (ofB HD.out.ba s.items[k]);have hqa:q.acts.length<=k:=by
    have h1:=congrArg (fun g:Gr=>g.acts.length) HD.out.ba;have h2:=kE 1 (s.items.take k);simp only[Gr.bare,ofT,bv,List.length_map] at h1;omega
   clear hab;generalize s.items[k]=x at q0 q1 q2 q3 q4 q5 q6 q7 q8 q9 q10 jN ou HXS HTK HOB;have HWF:=Lib.hid (HWH.out x.fn);have HWT:=Lib.hid (HWH.out x.tn);obtain⟨vf,tD⟩:∃v,cv s.items x.fn=v:=⟨_,rfl⟩
   obtain⟨vt,tE⟩:∃v,cv s.items x.tn=v:=⟨_,rfl⟩
   rw[tD] at HWF;rw[tE] at HWT;have HVF:=Lib.hid tD;have HVT:=Lib.hid tE;clear tD tE;obtain⟨g0,g1,g2,g3,g4,hPl⟩:=an HD.out.gr.blkP;have kb:New wr (wr.alloc (.cells #[.int .u8 x.kind,.string x.name,.string x.tag,.slice x.a x.xs.length x.c,.string x.fn,I x.fp,I x.fa,.string x.tn,I x.tp,I x.ta,I x.at_] 105)):=(New.refl wr).alloc _;have hby:(wr.alloc (.cells #[.int .u8 x.kind,.string x.name,.string x.tag,.slice x.a x.xs.length x.c,.string x.fn,I x.fp,I x.fa,.string x.tn,I x.tp,I x.ta,I x.at_] 105)).heap[wr.heap.size]? =some (.cells #[.int .u8 x.kind,.string x.name,.string x.tag,.slice x.a x.xs.length x.c,.string x.fn,I x.fp,I x.fa,.string x.tn,I x.tp,I x.ta,I x.at_] 105 (0,0)):=heap_alloc_new wr _;have HY:=Lib.hid hby;replace HD:=Lib.hid (HD.out.new kb);replace HSK:=Lib.hid (Keeps.heap kb HSK.out (fun h=>h));have KB:=Lib.hid kb;clear hby kb;rcases(by omega:x.kind=1∨x.kind=2∨x.kind=3∨x.kind=4) with hkk|hkk|hkk|hkk
   ·have d1:(x.kind==1)=true:=by simp[hkk]
    have HKK:=Lib.hid hkk;clear hkk ou;generalize htg:rc x.tag=tg;have HTG:=Lib.hid htg;clear htg;go_wp2_with fail;generalize(wr.alloc (.cells #[.int .u8 x.kind,.string x.name,.string x.tag,.slice x.a x.xs.length x.c,.string x.fn,I x.fp,I x.fa,.string x.tn,I x.tp,I x.ta,I x.at_] 105))=w1 at HY HD HSK KB ⊢;generalize wr.heap.size=Y at HY ⊢;have kb0:=KB.out;clear q0 q1 q2 q3 q4 q5 q6 q7 q8 q9 q10 hbw g0 g1 g2 g3 g4 hPl p0 p1 hPs;refine(uc x.tag w1).mono ?_;rintro e w3 ⟨rfl,k3⟩;rw[HTG.out];replace HD:=Lib.hid (HD.out.new k3);replace HSK:=Lib.hid (Keeps.heap k3 HSK.out (fun h=>h));replace HY:=Lib.hid (Keeps.heap k3 HY.out (fun h=>h));replace kb0:=kb0.trans k3;clear k3;go_wp2_with fail;obtain⟨g0,g1,g2,g3,g4,hPl⟩:=an HD.out.gr.blkP;obtain⟨p0,p1,-,-,hPs⟩:=cR HSK.out;have hYl:Y<w3.heap.size:=(Array.getElem?_eq_some_iff.1 HY.out).1;have hdr:New w3 w3.drew:=(New.refl w3).drew;have HSn:∀V,New w3 V->(fun w':World=>w'.cell? ⟨P,1,none⟩=some (.slice q.aa q.acts.length q.ac)∧P<w'.heap.size∧Y<w'.heap.size∧w'.cell? ⟨Y,1,none⟩=some (.string x.name)∧w'.cell? ⟨Y,3,none⟩=some (.slice x.a x.xs.length x.c)) V:=fun V kv=>⟨kv.cell g1,Nat.lt_of_lt_of_le hPl kv.size,Nat.lt_of_lt_of_le hYl kv.size,by rw[cell_of_block (Keeps.heap kv HY.out (fun h=>h)) 1];rfl,by rw[cell_of_block (Keeps.heap kv HY.out (fun h=>h)) 3];rfl⟩
    have hS0:=HSn _ hdr;clear g0 g1 g2 g3 g4 hPl hYl p0 p1 hPs;refine aj (fun w':World=>w'.cell? ⟨P,1,none⟩=some (.slice q.aa q.acts.length q.ac)∧P<w'.heap.size∧Y<w'.heap.size∧w'.cell? ⟨Y,1,none⟩=some (.string x.name)∧w'.cell? ⟨Y,3,none⟩=some (.slice x.a x.xs.length x.c)) [10,11,12] (by kernel_rfl) hS0 ?_;generalize w3.drew=WD at hS0 hdr ⊢;refine ae 0 hS0 ?_;refine ae 1 hS0 ?_;refine ae 2 hS0 ?_;refine ae 3 hS0 ?_;refine ae 4 hS0 ?_;refine ae 5 hS0 ?_;refine ae 6 hS0 ?_;refine ag 7 ?_;intro K hK;(try simp only[Act.put,sLs])
    go_simp;refine(qd x.a x.c x.xs WD (HXS _ (kb0.trans hdr)) jN).mono ?_;rintro e V1 ⟨a9,c9,rfl,ho9,kc1⟩;have kd1:=hdr.trans kc1;have hS1:=HSn _ kd1;refine hK _ _ (fun _=>hS1) ?_;clear hK K;refine ae 8 hS1 ?_;refine ag 9 ?_;intro K hK;(try simp only[Act.put,sLs])
    go_simp;have kl:New V1 (V1.alloc (.cells #[.string x.name,.int .u8 tg.1,.slice a9 x.xs.length c9] 63)):=(New.refl V1).alloc _;have bi:ar (V1.alloc (.cells #[.string x.name,.int .u8 tg.1,.slice a9 x.xs.length c9] 63)) (some ⟨V1.heap.size,0,none⟩) (ct (⟨x.name,tg.1,a9,c9,x.xs⟩:GAct)):=ar.lit V1 _ _;have kz:=kd1.trans kl;have hxo:bc (V1.alloc (.cells #[.string x.name,.int .u8 tg.1,.slice a9 x.xs.length c9] 63)) w.heap.size ((⟨x.name,tg.1,a9,c9,x.xs⟩:GAct)).a ((⟨x.name,tg.1,a9,c9,x.xs⟩:GAct)).c ((⟨x.name,tg.1,a9,c9,x.xs⟩:GAct)).xs:=ownsRow_le (ho9.new kl) (Nat.le_trans HD.out.nw.size (hdr.size));have hxd:∀k,blk ((⟨x.name,tg.1,a9,c9,x.xs⟩:GAct)).a k->w3.heap.size<=k:=fun k hk=>Nat.le_trans (hdr.size) (ai ho9 hk).1
    refine hK _ _ (fun _=>HSn _ kz) ?_;clear hK K;generalize(V1.alloc (.cells #[.string x.name,.int .u8 tg.1,.slice a9 x.xs.length c9] 63))=VZ at kl bi kz hxo ⊢;generalize V1.heap.size=Z at bi ⊢;refine ag 10 ?_;intro K hK;refine cS rfl _ _ 22 rfl w.heap.size 63 it1 _ 3 48 Tryz.underlying22 Bo ha0 ha1 ha2 rfl (by decide) q.aa q.acts.length q.ac (q.acts.flatMap ct) rfl (HD.out.new kz).gr.own.ao (some ⟨Z,0,none⟩) 1 1 (ct (⟨x.name,tg.1,a9,c9,x.xs⟩:GAct)) rfl rfl bi (uV _) (by unfold maxLen;omega) (by omega) (Nat.le_trans HD.out.nw.size kz.size) ?_;intro ao' c' wc az hk' hmv;obtain⟨⟨hv0,hfz,lS⟩,h2,h3⟩:=HD.out.gr.addAct (⟨x.name,tg.1,a9,c9,x.xs⟩:GAct) hxo hxd kz az hk' hmv;have hP:=HD.out.hP;have hDn:=HD.out.step h2 (HOB.out.1 HKK.out _ _ _ (by unfold oC;rw[HTG.out];rfl)) h3 (HD.out.gr.newsAct (Nat.le_refl _) (by omega) HD.out.nw h3) (fun g hg=>aL HD.out.gr.own.ao (aV hg)) (by decide);rw[<-HTK.out] at hDn;have HDn:=Lib.hid hDn;refine hK _ _ (fun hx=>by cases hx) ?_;clear hK K hDn az hk' hmv h2 h3 hP;refine ag 11 ?_;intro K hK;(try simp only[Act.put,sLs])
    go_simp;refine hK _ _ (fun hx=>by cases hx) ?_;clear hK K;refine ag 12 ?_;intro K hK;(try simp only[Act.put,sLs])
    go_simp;refine hK _ _ (fun hx=>by cases hx) ?_;clear hK K;refine av (by kernel_rfl) ?_;(try simp only[Act.put,sLs])
    clear hS0 HSn;(try simp only[Exit.then])
    go_wp2_with fail;go_roundw
    case rel=>exact⟨k+1,_,by omega,by go_num,HDn⟩
    case measure=>simp[intOf];omega
   ·have d1:(x.kind==1)=false:=by simp;omega
    have d2:(x.kind==2)=true:=by simp[hkk]
    have HKK:=Lib.hid hkk;clear hkk ou;by_cases hm:q.edges.length<=96
    ·have dm:decide (q.edges.length<=96)=true:=decide_eq_true hm;have dm2:decide ((q.edges.length:Int)<=96)=true:=decide_eq_true (by omega);go_wp2_with fail;generalize(wr.alloc (.cells #[.int .u8 x.kind,.string x.name,.string x.tag,.slice x.a x.xs.length x.c,.string x.fn,I x.fp,I x.fa,.string x.tn,I x.tp,I x.ta,I x.at_] 105))=w1 at HY HD HSK KB ⊢;generalize wr.heap.size=Y at HY ⊢;have kb0:=KB.out;clear q0 q1 q2 q3 q4 q5 q6 q7 q8 q9 q10 hbw g0 g1 g2 g3 g4 hPl p0 p1 hPs;obtain⟨g0,g1,g2,g3,g4,hPl⟩:=an HD.out.gr.blkP;obtain⟨p0,p1,-,-,hPs⟩:=cR HSK.out;have hYl:Y<w1.heap.size:=(Array.getElem?_eq_some_iff.1 HY.out).1;have hdr:New w1 w1.drew:=(New.refl w1).drew;have HSn:∀V,New w1 V->(fun w':World=>w'.cell? ⟨P,2,none⟩=some (.slice q.ea q.edges.length q.ec)∧P<w'.heap.size∧Y<w'.heap.size∧w'.cell? ⟨Y,3,none⟩=some (.slice x.a x.xs.length x.c)∧w'.cell? ⟨Y,4,none⟩=some (.string x.fn)∧w'.cell? ⟨Y,5,none⟩=some (I x.fp)∧w'.cell? ⟨Y,7,none⟩=some (.string x.tn)∧w'.cell? ⟨Y,8,none⟩=some (I x.tp)∧w'.cell? ⟨w.heap.size,0,none⟩=some (.string s.name)∧w'.cell? ⟨w.heap.size,1,none⟩=some (.slice (some ⟨b,off,none⟩) s.items.length s.ic)∧w.heap.size<w'.heap.size) V:=fun V kv=>⟨kv.cell g2,Nat.lt_of_lt_of_le hPl kv.size,Nat.lt_of_lt_of_le hYl kv.size,by rw[cell_of_block (Keeps.heap kv HY.out (fun h=>h)) 3];rfl,by rw[cell_of_block (Keeps.heap kv HY.out (fun h=>h)) 4];rfl,by rw[cell_of_block (Keeps.heap kv HY.out (fun h=>h)) 5];rfl,by rw[cell_of_block (Keeps.heap kv HY.out (fun h=>h)) 7];rfl,by rw[cell_of_block (Keeps.heap kv HY.out (fun h=>h)) 8];rfl,kv.cell p0,kv.cell p1,Nat.lt_of_lt_of_le hPs kv.size⟩
     have hS0:=HSn _ hdr;clear g0 g1 g2 g3 g4 hPl hYl p0 p1 hPs;refine aj (fun w':World=>w'.cell? ⟨P,2,none⟩=some (.slice q.ea q.edges.length q.ec)∧P<w'.heap.size∧Y<w'.heap.size∧w'.cell? ⟨Y,3,none⟩=some (.slice x.a x.xs.length x.c)∧w'.cell? ⟨Y,4,none⟩=some (.string x.fn)∧w'.cell? ⟨Y,5,none⟩=some (I x.fp)∧w'.cell? ⟨Y,7,none⟩=some (.string x.tn)∧w'.cell? ⟨Y,8,none⟩=some (I x.tp)∧w'.cell? ⟨w.heap.size,0,none⟩=some (.string s.name)∧w'.cell? ⟨w.heap.size,1,none⟩=some (.slice (some ⟨b,off,none⟩) s.items.length s.ic)∧w.heap.size<w'.heap.size) [23,24,25] (by kernel_rfl) hS0 ?_;generalize w1.drew=WD at hS0 hdr ⊢;refine ae 0 hS0 ?_;refine ae 1 hS0 ?_;refine ae 2 hS0 ?_;refine ae 3 hS0 ?_;refine ae 4 hS0 ?_;refine ae 5 hS0 ?_;refine ae 7 hS0 ?_;refine ae 8 hS0 ?_;refine ae 9 hS0 ?_;refine ae 10 hS0 ?_;refine ae 11 hS0 ?_;refine ae 12 hS0 ?_;refine ae 13 hS0 ?_;refine ae 15 hS0 ?_;refine ae 16 hS0 ?_;refine ae 17 hS0 ?_;refine ae 18 hS0 ?_;refine ae 19 hS0 ?_;refine ag 6 ?_;intro K hK;(try simp only[Act.put,sLs])
     go_simp;refine(HWF.out WD (HD.out.nw.trans hdr)).mono ?_;rintro e V1 ⟨rfl,kc1⟩;have kd1:=hdr.trans kc1;have hS1:=HSn _ kd1;refine hK _ _ (fun _=>hS1) ?_;clear hK K;refine ag 14 ?_;intro K hK;(try simp only[Act.put,sLs])
     go_simp;refine(HWT.out V1 (HD.out.nw.trans kd1)).mono ?_;rintro e V2 ⟨rfl,kc2⟩;have kd2:=kd1.trans kc2;have hS2:=HSn _ kd2;refine hK _ _ (fun _=>hS2) ?_;clear hK K;refine ag 20 ?_;intro K hK;(try simp only[Act.put,sLs])
     go_simp;refine(qd x.a x.c x.xs V2 (HXS _ (kb0.trans kd2)) jN).mono ?_;rintro e V3 ⟨a9,c9,rfl,ho9,kc3⟩;have kd3:=kd2.trans kc3;have hS3:=HSn _ kd3;refine hK _ _ (fun _=>hS3) ?_;clear hK K;refine ae 21 hS3 ?_;refine ag 22 ?_;intro K hK;(try simp only[Act.put,sLs])
     go_simp;have kl:New V3 (V3.alloc (.cells #[I (vf-1),I x.fp,I (vt-1),I x.tp,.slice a9 x.xs.length c9] 66)):=(New.refl V3).alloc _;have bi:ar (V3.alloc (.cells #[I (vf-1),I x.fp,I (vt-1),I x.tp,.slice a9 x.xs.length c9] 66)) (some ⟨V3.heap.size,0,none⟩) (bS (⟨vf-1,x.fp,vt-1,x.tp,a9,c9,x.xs⟩:GEdge)):=ar.lit V3 _ _;have kz:=kd3.trans kl;have hxo:bc (V3.alloc (.cells #[I (vf-1),I x.fp,I (vt-1),I x.tp,.slice a9 x.xs.length c9] 66)) w.heap.size ((⟨vf-1,x.fp,vt-1,x.tp,a9,c9,x.xs⟩:GEdge)).a ((⟨vf-1,x.fp,vt-1,x.tp,a9,c9,x.xs⟩:GEdge)).c ((⟨vf-1,x.fp,vt-1,x.tp,a9,c9,x.xs⟩:GEdge)).xs:=ownsRow_le (ho9.new kl) (Nat.le_trans HD.out.nw.size (kd2.size));have hxd:∀k,blk ((⟨vf-1,x.fp,vt-1,x.tp,a9,c9,x.xs⟩:GEdge)).a k->w1.heap.size<=k:=fun k hk=>Nat.le_trans (kd2.size) (ai ho9 hk).1
     refine hK _ _ (fun _=>HSn _ kz) ?_;clear hK K;generalize(V3.alloc (.cells #[I (vf-1),I x.fp,I (vt-1),I x.tp,.slice a9 x.xs.length c9] 66))=VZ at kl bi kz hxo ⊢;generalize V3.heap.size=Z at bi ⊢;refine ag 23 ?_;intro K hK;refine cS rfl _ _ 23 rfl w.heap.size 66 it2 _ 5 56 Tryz.underlying23 Bp he0 he1 he2 rfl (by decide) q.ea q.edges.length q.ec (q.edges.flatMap bS) rfl (HD.out.new kz).gr.own.eo (some ⟨Z,0,none⟩) 1 1 (bS (⟨vf-1,x.fp,vt-1,x.tp,a9,c9,x.xs⟩:GEdge)) rfl rfl bi (sg _) (by unfold maxLen;omega) (by omega) (Nat.le_trans HD.out.nw.size kz.size) ?_;intro ao' c' wc az hk' hmv;obtain⟨⟨hv0,hfz,lS⟩,h2,h3⟩:=HD.out.gr.addEdge (⟨vf-1,x.fp,vt-1,x.tp,a9,c9,x.xs⟩:GEdge) hxo hxd kz az hk' hmv;have hP:=HD.out.hP;have hDn:=HD.out.step h2 (HOB.out.2.1 HKK.out hm _ _ _ (by unfold ll;rw[HVF.out,HVT.out];rfl)) h3 (HD.out.gr.newsEdge (Nat.le_refl _) (by omega) HD.out.nw h3) (fun g hg=>aL HD.out.gr.own.eo (aV hg)) (by decide);rw[<-HTK.out] at hDn;have HDn:=Lib.hid hDn;refine hK _ _ (fun hx=>by cases hx) ?_;clear hK K hDn az hk' hmv h2 h3 hP;refine ag 24 ?_;intro K hK;(try simp only[Act.put,sLs])
     go_simp;refine hK _ _ (fun hx=>by cases hx) ?_;clear hK K;refine ag 25 ?_;intro K hK;(try simp only[Act.put,sLs])
     go_simp;refine hK _ _ (fun hx=>by cases hx) ?_;clear hK K;refine av (by kernel_rfl) ?_;(try simp only[Act.put,sLs])
     clear hS0 HSn;(try simp only[Exit.then])
     go_wp2_with fail;go_roundw
     case rel=>exact⟨k+1,_,by omega,by go_num,HDn⟩
     case measure=>simp[intOf];omega
    ·have dm:decide (q.edges.length<=96)=false:=decide_eq_false hm;have dm2:decide ((q.edges.length:Int)<=96)=false:=decide_eq_false (by omega);go_wp2_with fail;go_roundw
     case rel=>exact⟨k+1,q,by omega,by go_num,Lib.hid (by rw[HTK.out];exact⟨HD.out.gr,HOB.out.2.2.2.2 (.inl ⟨HKK.out,by omega⟩),HD.out.nw,HD.out.hs,HD.out.h1,HD.out.hP⟩)⟩
     case measure=>simp[intOf];omega
   ·have d1:(x.kind==1)=false:=by simp;omega
    have d2:(x.kind==2)=false:=by simp;omega
    have d3:(x.kind==3)=true:=by simp[hkk]
    have HKK:=Lib.hid hkk;clear hkk ou;by_cases hm:q.ins.length<=16
    ·have dm:decide (q.ins.length<=16)=true:=decide_eq_true hm;have dm2:decide ((q.ins.length:Int)<=16)=true:=decide_eq_true (by omega);go_wp2_with fail;generalize(wr.alloc (.cells #[.int .u8 x.kind,.string x.name,.string x.tag,.slice x.a x.xs.length x.c,.string x.fn,I x.fp,I x.fa,.string x.tn,I x.tp,I x.ta,I x.at_] 105))=w1 at HY HD HSK KB ⊢;generalize wr.heap.size=Y at HY ⊢;have kb0:=KB.out;clear q0 q1 q2 q3 q4 q5 q6 q7 q8 q9 q10 hbw g0 g1 g2 g3 g4 hPl p0 p1 hPs;obtain⟨g0,g1,g2,g3,g4,hPl⟩:=an HD.out.gr.blkP;obtain⟨p0,p1,-,-,hPs⟩:=cR HSK.out;have hYl:Y<w1.heap.size:=(Array.getElem?_eq_some_iff.1 HY.out).1;have hdr:New w1 w1.drew:=(New.refl w1).drew;have HSn:∀V,New w1 V->(fun w':World=>w'.cell? ⟨P,3,none⟩=some (.slice q.ia q.ins.length q.ic)∧P<w'.heap.size∧Y<w'.heap.size∧w'.cell? ⟨Y,1,none⟩=some (.string x.name)∧w'.cell? ⟨Y,7,none⟩=some (.string x.tn)∧w'.cell? ⟨Y,8,none⟩=some (I x.tp)∧w'.cell? ⟨w.heap.size,0,none⟩=some (.string s.name)∧w'.cell? ⟨w.heap.size,1,none⟩=some (.slice (some ⟨b,off,none⟩) s.items.length s.ic)∧w.heap.size<w'.heap.size) V:=fun V kv=>⟨kv.cell g3,Nat.lt_of_lt_of_le hPl kv.size,Nat.lt_of_lt_of_le hYl kv.size,by rw[cell_of_block (Keeps.heap kv HY.out (fun h=>h)) 1];rfl,by rw[cell_of_block (Keeps.heap kv HY.out (fun h=>h)) 7];rfl,by rw[cell_of_block (Keeps.heap kv HY.out (fun h=>h)) 8];rfl,kv.cell p0,kv.cell p1,Nat.lt_of_lt_of_le hPs kv.size⟩
     have hS0:=HSn _ hdr;clear g0 g1 g2 g3 g4 hPl hYl p0 p1 hPs;refine aj (fun w':World=>w'.cell? ⟨P,3,none⟩=some (.slice q.ia q.ins.length q.ic)∧P<w'.heap.size∧Y<w'.heap.size∧w'.cell? ⟨Y,1,none⟩=some (.string x.name)∧w'.cell? ⟨Y,7,none⟩=some (.string x.tn)∧w'.cell? ⟨Y,8,none⟩=some (I x.tp)∧w'.cell? ⟨w.heap.size,0,none⟩=some (.string s.name)∧w'.cell? ⟨w.heap.size,1,none⟩=some (.slice (some ⟨b,off,none⟩) s.items.length s.ic)∧w.heap.size<w'.heap.size) [14,15,16] (by kernel_rfl) hS0 ?_;generalize w1.drew=WD at hS0 hdr ⊢;refine ae 0 hS0 ?_;refine ae 1 hS0 ?_;refine ae 2 hS0 ?_;refine ae 3 hS0 ?_;refine ae 4 hS0 ?_;refine ae 5 hS0 ?_;refine ae 6 hS0 ?_;refine ae 7 hS0 ?_;refine ae 9 hS0 ?_;refine ae 10 hS0 ?_;refine ae 11 hS0 ?_;refine ag 8 ?_;intro K hK;(try simp only[Act.put,sLs])
     go_simp;refine(HWT.out WD (HD.out.nw.trans hdr)).mono ?_;rintro e V1 ⟨rfl,kc1⟩;have kd1:=hdr.trans kc1;have hS1:=HSn _ kd1;refine hK _ _ (fun _=>hS1) ?_;clear hK K;refine ae 12 hS1 ?_;refine ag 13 ?_;intro K hK;(try simp only[Act.put,sLs])
     go_simp;have kl:New V1 (V1.alloc (.cells #[.string x.name,I (vt-1),I x.tp] 82)):=(New.refl V1).alloc _;have bi:ar (V1.alloc (.cells #[.string x.name,I (vt-1),I x.tp] 82)) (some ⟨V1.heap.size,0,none⟩) (aH (⟨x.name,vt-1,x.tp⟩:GPort)):=ar.lit V1 _ _;have kz:=kd1.trans kl;refine hK _ _ (fun _=>HSn _ kz) ?_;clear hK K;generalize(V1.alloc (.cells #[.string x.name,I (vt-1),I x.tp] 82))=VZ at kl bi kz ⊢;generalize V1.heap.size=Z at bi ⊢;refine ag 14 ?_;intro K hK;refine cS rfl _ _ 24 rfl w.heap.size 82 it3 _ 3 32 Tryz.underlying24 yk hp0 hp1 hp2 rfl (by decide) q.ia q.ins.length q.ic (q.ins.flatMap aH) rfl (HD.out.new kz).gr.own.io (some ⟨Z,0,none⟩) 1 1 (aH (⟨x.name,vt-1,x.tp⟩:GPort)) rfl rfl bi (l8 _) (by unfold maxLen;omega) (by omega) (Nat.le_trans HD.out.nw.size kz.size) ?_;intro ao' c' wc az hk' hmv;obtain⟨⟨hv0,hfz,lS⟩,h2,h3⟩:=HD.out.gr.addIn (⟨x.name,vt-1,x.tp⟩:GPort) kz az hk' hmv;have hP:=HD.out.hP;have hDn:=HD.out.step h2 (HOB.out.2.2.1 HKK.out hm _ _ _ (by unfold v6;rw[HVT.out])) h3 (HD.out.gr.newsIn (Nat.le_refl _) (by omega) HD.out.nw h3) (fun g hg=>aL HD.out.gr.own.io (aV hg)) (by decide);rw[<-HTK.out] at hDn;have HDn:=Lib.hid hDn;refine hK _ _ (fun hx=>by cases hx) ?_;clear hK K hDn az hk' hmv h2 h3 hP;refine ag 15 ?_;intro K hK;(try simp only[Act.put,sLs])
     go_simp;refine hK _ _ (fun hx=>by cases hx) ?_;clear hK K;refine ag 16 ?_;intro K hK;(try simp only[Act.put,sLs])
     go_simp;refine hK _ _ (fun hx=>by cases hx) ?_;clear hK K;refine av (by kernel_rfl) ?_;(try simp only[Act.put,sLs])
     clear hS0 HSn;(try simp only[Exit.then])
     go_wp2_with fail;go_roundw
     case rel=>exact⟨k+1,_,by omega,by go_num,HDn⟩
     case measure=>simp[intOf];omega
    ·have dm:decide (q.ins.length<=16)=false:=decide_eq_false hm;have dm2:decide ((q.ins.length:Int)<=16)=false:=decide_eq_false (by omega);go_wp2_with fail;go_roundw
     case rel=>exact⟨k+1,q,by omega,by go_num,Lib.hid (by rw[HTK.out];exact⟨HD.out.gr,HOB.out.2.2.2.2 (.inr (.inl ⟨HKK.out,by omega⟩)),HD.out.nw,HD.out.hs,HD.out.h1,HD.out.hP⟩)⟩
     case measure=>simp[intOf];omega
   ·have d1:(x.kind==1)=false:=by simp;omega
    have d2:(x.kind==2)=false:=by simp;omega
    have d3:(x.kind==3)=false:=by simp;omega
    have d4:(x.kind==4)=true:=by simp[hkk]
    have HKK:=Lib.hid hkk;clear hkk ou;by_cases hm:q.outs.length<=16
    ·have dm:decide (q.outs.length<=16)=true:=decide_eq_true hm;have dm2:decide ((q.outs.length:Int)<=16)=true:=decide_eq_true (by omega);go_wp2_with fail;generalize(wr.alloc (.cells #[.int .u8 x.kind,.string x.name,.string x.tag,.slice x.a x.xs.length x.c,.string x.fn,I x.fp,I x.fa,.string x.tn,I x.tp,I x.ta,I x.at_] 105))=w1 at HY HD HSK KB ⊢;generalize wr.heap.size=Y at HY ⊢;have kb0:=KB.out;clear q0 q1 q2 q3 q4 q5 q6 q7 q8 q9 q10 hbw g0 g1 g2 g3 g4 hPl p0 p1 hPs;obtain⟨g0,g1,g2,g3,g4,hPl⟩:=an HD.out.gr.blkP;obtain⟨p0,p1,-,-,hPs⟩:=cR HSK.out;have hYl:Y<w1.heap.size:=(Array.getElem?_eq_some_iff.1 HY.out).1;have hdr:New w1 w1.drew:=(New.refl w1).drew;have HSn:∀V,New w1 V->(fun w':World=>w'.cell? ⟨P,4,none⟩=some (.slice q.oa q.outs.length q.oc)∧P<w'.heap.size∧Y<w'.heap.size∧w'.cell? ⟨Y,1,none⟩=some (.string x.name)∧w'.cell? ⟨Y,4,none⟩=some (.string x.fn)∧w'.cell? ⟨Y,5,none⟩=some (I x.fp)∧w'.cell? ⟨w.heap.size,0,none⟩=some (.string s.name)∧w'.cell? ⟨w.heap.size,1,none⟩=some (.slice (some ⟨b,off,none⟩) s.items.length s.ic)∧w.heap.size<w'.heap.size) V:=fun V kv=>⟨kv.cell g4,Nat.lt_of_lt_of_le hPl kv.size,Nat.lt_of_lt_of_le hYl kv.size,by rw[cell_of_block (Keeps.heap kv HY.out (fun h=>h)) 1];rfl,by rw[cell_of_block (Keeps.heap kv HY.out (fun h=>h)) 4];rfl,by rw[cell_of_block (Keeps.heap kv HY.out (fun h=>h)) 5];rfl,kv.cell p0,kv.cell p1,Nat.lt_of_lt_of_le hPs kv.size⟩
     have hS0:=HSn _ hdr;clear g0 g1 g2 g3 g4 hPl hYl p0 p1 hPs;refine aj (fun w':World=>w'.cell? ⟨P,4,none⟩=some (.slice q.oa q.outs.length q.oc)∧P<w'.heap.size∧Y<w'.heap.size∧w'.cell? ⟨Y,1,none⟩=some (.string x.name)∧w'.cell? ⟨Y,4,none⟩=some (.string x.fn)∧w'.cell? ⟨Y,5,none⟩=some (I x.fp)∧w'.cell? ⟨w.heap.size,0,none⟩=some (.string s.name)∧w'.cell? ⟨w.heap.size,1,none⟩=some (.slice (some ⟨b,off,none⟩) s.items.length s.ic)∧w.heap.size<w'.heap.size) [14,15,16] (by kernel_rfl) hS0 ?_;generalize w1.drew=WD at hS0 hdr ⊢;refine ae 0 hS0 ?_;refine ae 1 hS0 ?_;refine ae 2 hS0 ?_;refine ae 3 hS0 ?_;refine ae 4 hS0 ?_;refine ae 5 hS0 ?_;refine ae 6 hS0 ?_;refine ae 7 hS0 ?_;refine ae 9 hS0 ?_;refine ae 10 hS0 ?_;refine ae 11 hS0 ?_;refine ag 8 ?_;intro K hK;(try simp only[Act.put,sLs])
     go_simp;refine(HWF.out WD (HD.out.nw.trans hdr)).mono ?_;rintro e V1 ⟨rfl,kc1⟩;have kd1:=hdr.trans kc1;have hS1:=HSn _ kd1;refine hK _ _ (fun _=>hS1) ?_;clear hK K;refine ae 12 hS1 ?_;refine ag 13 ?_;intro K hK;(try simp only[Act.put,sLs])
     go_simp;have kl:New V1 (V1.alloc (.cells #[.string x.name,I (vf-1),I x.fp] 82)):=(New.refl V1).alloc _;have bi:ar (V1.alloc (.cells #[.string x.name,I (vf-1),I x.fp] 82)) (some ⟨V1.heap.size,0,none⟩) (aH (⟨x.name,vf-1,x.fp⟩:GPort)):=ar.lit V1 _ _;have kz:=kd1.trans kl;refine hK _ _ (fun _=>HSn _ kz) ?_;clear hK K;generalize(V1.alloc (.cells #[.string x.name,I (vf-1),I x.fp] 82))=VZ at kl bi kz ⊢;generalize V1.heap.size=Z at bi ⊢;refine ag 14 ?_;intro K hK;refine cS rfl _ _ 24 rfl w.heap.size 82 it3 _ 3 32 Tryz.underlying24 yk hp0 hp1 hp2 rfl (by decide) q.oa q.outs.length q.oc (q.outs.flatMap aH) rfl (HD.out.new kz).gr.own.oo (some ⟨Z,0,none⟩) 1 1 (aH (⟨x.name,vf-1,x.fp⟩:GPort)) rfl rfl bi (l8 _) (by unfold maxLen;omega) (by omega) (Nat.le_trans HD.out.nw.size kz.size) ?_;intro ao' c' wc az hk' hmv;obtain⟨⟨hv0,hfz,lS⟩,h2,h3⟩:=HD.out.gr.addOut (⟨x.name,vf-1,x.fp⟩:GPort) kz az hk' hmv;have hP:=HD.out.hP;have hDn:=HD.out.step h2 (HOB.out.2.2.2.1 HKK.out hm _ _ _ (by unfold pF;rw[HVF.out])) h3 (HD.out.gr.newsOut (Nat.le_refl _) (by omega) HD.out.nw h3) (fun g hg=>aL HD.out.gr.own.oo (aV hg)) (by decide);rw[<-HTK.out] at hDn;have HDn:=Lib.hid hDn;refine hK _ _ (fun hx=>by cases hx) ?_;clear hK K hDn az hk' hmv h2 h3 hP;refine ag 15 ?_;intro K hK;(try simp only[Act.put,sLs])
     go_simp;refine hK _ _ (fun hx=>by cases hx) ?_;clear hK K;refine ag 16 ?_;intro K hK;(try simp only[Act.put,sLs])
     go_simp;refine hK _ _ (fun hx=>by cases hx) ?_;clear hK K;refine av (by kernel_rfl) ?_;(try simp only[Act.put,sLs])
     clear hS0 HSn;(try simp only[Exit.then])
     go_wp2_with fail;go_roundw
     case rel=>exact⟨k+1,_,by omega,by go_num,HDn⟩
     case measure=>simp[intOf];omega
    ·have dm:decide (q.outs.length<=16)=false:=decide_eq_false hm;have dm2:decide ((q.outs.length:Int)<=16)=false:=decide_eq_false (by omega);go_wp2_with fail;go_roundw
     case rel=>exact⟨k+1,q,by omega,by go_num,Lib.hid (by rw[HTK.out];exact⟨HD.out.gr,HOB.out.2.2.2.2 (.inr (.inr (.inl ⟨HKK.out,by omega⟩))),HD.out.nw,HD.out.hs,HD.out.h1,HD.out.hP⟩)⟩
     case measure=>simp[intOf];omega
  ·have hke:k=s.items.length:=by omega
   have hkd:decide (k<s.items.length)=false:=decide_eq_false hk1;rw[hke,List.take_length] at HD;clear hke hk hk1;obtain⟨c0,c1,c2,c3,c4,hPl⟩:=an HD.out.gr.blkP;obtain⟨g0,g1,g2,g3,g4,hGl⟩:=an HD.out.h1;have hGf:∀i,wr.frozen? ⟨w.heap.size+1,i,none⟩=false:=fun i=>unfrozen_of_block HD.out.h1 i
   have gz0:=hGf 0;have gz1:=hGf 1;have gz2:=hGf 2;have gz3:=hGf 3;have gz4:=hGf 4;obtain⟨h9,k9⟩:=aW HD.out.h1 (.string q.name) (.slice q.aa q.acts.length q.ac) (.slice q.ea q.edges.length q.ec) (.slice q.ia q.ins.length q.ic) (.slice q.oa q.outs.length q.oc);have HF:=Lib.hid (And.intro (HD.out.gr.own.other k9 (fun g hg=> .inr ⟨_,_,_,hg▸HD.out.h1,by decide,by decide,by decide,by decide⟩)) (New.keeps HD.out.nw k9 (fun i hi h=>by omega)));have HB:=Lib.hid HD.out.ba;obtain⟨y0,y1,y2,y3,y4,hYl⟩:=an h9;clear hGf h9 k9 HD hsk;go_wp2_with fail;exact bodyPost_ret (v:= .agg #[.string q.name,.slice q.aa q.acts.length q.ac,.slice q.ea q.edges.length q.ec,.slice q.ia q.ins.length q.ic,.slice q.oa q.outs.length q.oc]) (by simp[results,Tryz.results63,go_sem,y0,y1,y2,y3,y4,hYl]) rfl ⟨q,rfl,HF.out.1,HB.out,HF.out.2⟩
theorem xV {s:Sk} {q:Gr} (h:q.bare=ofT (aX s)) (hl:SLen s):GLen q:=by
 have hb:(aX s).bare=aX s:=by unfold aX bv Gr.bare;simp[List.map_map];exact⟨fun _ _=>rfl,fun _ _=>rfl⟩
 have g:=uH hb hl;have g2:GLen (ofT (aX s)):=by
  unfold ofT;exact⟨g.a,by simp only[List.length_take];have:=g.e;omega,by simp only[List.length_take];have:=g.i;omega,by simp only[List.length_take];have:=g.o;omega,g.ax,fun x hx=>g.ex x (List.mem_of_mem_take hx),fun x hx=>g.ix x (List.mem_of_mem_take hx),fun x hx=>g.ox x (List.mem_of_mem_take hx),g.n⟩
 have e:(ofT (aX s)).bare=ofT (aX s):=by
  conv=>rhs;rw[<-hb]
  unfold ofT Gr.bare;simp only[List.map_take]
 exact g2.bare (h.trans e.symm)
theorem Ad {s:Sk} {q:Gr} (h:q.bare=ofT (aX s)):bz q=bz (aX s):=by rw[<-js q,h,xT]
def mr (w:World) (s:Sk) (e:Ending) (w':World):Prop:=
 if(cx s).1≠0 then e= .returned (.tuple #[.agg zG,.agg #[I (cx s).1,I (cx s).2]])∧New w w'
 else ∃(B:Nat) (q:Gr),w.heap.size<=B∧e= .returned (.tuple #[q.v,.agg #[I 0,I 0]])∧GrOwn w' B q∧q.bare=aX s∧New w w'
theorem ub (w:World) (s:Sk) (hs:SkAt w s) (hl:SLen s) (hkr:∀x∈s.items,0<=x.kind∧x.kind<=255) (hsz:s.items.length*64<=140737488355328) (hnz:∀x∈s.items,x.xs.length*8<=140737488351232):
  Calls Tryz.prog 28 #[s.v] w (mr w s):=by
 have HS:=Lib.hid hs;have HL:=Lib.hid hl;have HKR:=Lib.hid hkr;have hli:=hl.i;have HOF:=Lib.hid (fun(hk:∀x∈s.items,1<=x.kind∧x.kind<=4) (W:World) (n:New w W)=>AF W s (hs.new n) hl hk hsz hnz);obtain⟨si,hsi⟩:∃a,s.ia=a:=⟨_,rfl⟩
 simp only[Sk.v,Sk.cs] at HOF ⊢;rw[hsi] at HOF ⊢;have HSI:=Lib.hid hsi;obtain⟨post,cu⟩:∃post,mr w s=post:=⟨_,rfl⟩
 rw[cu];have HP:=Lib.hid cu;clear hs hl hsi cu hkr hnz;go_enter Tryz.func28,Tryz.ntmps28;go_wp2_with fail;have na:New w (w.alloc (.cells #[.string s.name,.slice si s.items.length s.ic] 52)):=(New.refl w).alloc _;have ha:(w.alloc (.cells #[.string s.name,.slice si s.items.length s.ic] 52)).heap[w.heap.size]? =some (.cells #[.string s.name,.slice si s.items.length s.ic] 52 (0,0)):=heap_alloc_new w _;have sa:(w.alloc (.cells #[.string s.name,.slice si s.items.length s.ic] 52)).heap.size=w.heap.size+1:=aG _ _;generalize(w.alloc (.cells #[.string s.name,.slice si s.items.length s.ic] 52))=wa at na ha sa ⊢;have nb:New wa (wa.alloc (.cells #[.string ⟨#[]⟩,.slice none 0 0,.slice none 0 0,.slice none 0 0,.slice none 0 0] 26)):=(New.refl wa).alloc _;have hb:(wa.alloc (.cells #[.string ⟨#[]⟩,.slice none 0 0,.slice none 0 0,.slice none 0 0,.slice none 0 0] 26)).heap[wa.heap.size]? =some (.cells #[.string ⟨#[]⟩,.slice none 0 0,.slice none 0 0,.slice none 0 0,.slice none 0 0] 26 (0,0)):=heap_alloc_new wa _;have sb:(wa.alloc (.cells #[.string ⟨#[]⟩,.slice none 0 0,.slice none 0 0,.slice none 0 0,.slice none 0 0] 26)).heap.size=w.heap.size+1+1:=by rw[aG,sa]
 rw[sa] at hb;generalize(wa.alloc (.cells #[.string ⟨#[]⟩,.slice none 0 0,.slice none 0 0,.slice none 0 0,.slice none 0 0] 26))=wb at nb hb sb ⊢;have nc:New wb (wb.alloc (.cells #[I 0,I 0] 33)):=(New.refl wb).alloc _;have hc:(wb.alloc (.cells #[I 0,I 0] 33)).heap[wb.heap.size]? =some (.cells #[I 0,I 0] 33 (0,0)):=heap_alloc_new wb _;rw[sb] at hc;generalize(wb.alloc (.cells #[I 0,I 0] 33))=W0 at nc hc ⊢;have hN:=(na.trans nb).trans nc;have H0:=Lib.hid (Keeps.heap (nb.trans nc) ha (fun h=>h));have H1:=Lib.hid (Keeps.heap nc hb (fun h=>h));have H2:=Lib.hid hc;clear na nb nc ha hb hc sa sb;go_loopw [4] (fun j wr=>∃(k:Nat),k<=s.items.length∧j= .int .i64 k∧wr=W0∧Hid (∀j (hj:j<s.items.length),j<k->gZ s.items[j]=false)) (fun j _=>s.items.length-(intOf j).toNat)
 case atStart=>exact⟨0,by omega,rfl,rfl,Lib.hid (fun j hj h=>by omega)⟩
 case round=>
  obtain⟨k,hk,rfl,rfl,HE⟩:=hrel;obtain⟨p0,p1,-,-,hPs⟩:=cR H0.out;by_cases hk1:k<s.items.length
  ·have hkI:(k:Int)<(s.items.length:Int):=by omega
   have hkd:decide (k<s.items.length)=true:=decide_eq_true hk1;obtain⟨b,off,hab,q0,q1,q2,q3,q4,q5,q6,q7,q8,q9,q10⟩:=eu (HS.out.new hN).sl hk1;obtain⟨b',nD,CE,q0',-⟩:=eu HS.out.sl hk1;have hbo:b'<w.heap.size:=World.block_lt_of_cell? w _ q0';have e:b=b':=by have:=hab.symm.trans CE;cases this;rfl
   have hbw:b<wr.heap.size:=World.block_lt_of_cell? wr _ q0;have e2:si=some ⟨b,off,none⟩:=HSI.out.symm.trans hab;subst e e2;have HB:Hid (gZ s.items[k]=decide (s.items[k].kind<1∨4<s.items[k].kind)):=Lib.hid rfl;have HF:Hid (gZ s.items[k]=true->cx s=(1,s.items[k].at_)):=Lib.hid (fun h=>by unfold cx;rw[rE hk1 HE.out h]);have HE2:Hid (gZ s.items[k]=false->∀j (hj:j<s.items.length),j<k+1->gZ s.items[j]=false):=Lib.hid (fun h j hj hjk=>by
    by_cases e:j=k
    ·subst e;exact h
    ·exact HE.out j hj (by omega))
   clear hab CE HE q0';generalize s.items[k]=x at q0 q1 q2 q3 q4 q5 q6 q7 q8 q9 q10 HB HF HE2;by_cases rI:x.kind<1∨4<x.kind
   ·have HV2:=Lib.hid (HF.out (by rw[HB.out];exact decide_eq_true rI));have HPP:Hid (∀W',New w W'->post (.returned (.tuple #[.agg #[.string ⟨#[]⟩,.slice none 0 0,.slice none 0 0,.slice none 0 0,.slice none 0 0],.agg #[I 1,I x.at_]])) W'):=Lib.hid (fun W' kW=>by
     rw[<-HP.out];unfold mr;rw[HV2.out,if_pos (show(1:Int)≠0 by decide)];exact⟨rfl,kW⟩)
    clear HF HE2 HB HV2;by_cases hb1:x.kind<1
    rotate_left 1
    have hb2:4<x.kind:=by omega
    have d2:=decide_eq_true hb2;have d1:=decide_eq_false hb1;rotate_left 1
    have d1:=decide_eq_true hb1;all_goals
     clear rI;go_wp2_with fail;have EK:=q10;clear q0 q1 q2 q3 q4 q5 q6 q7 q8 q9;have hdr:New wr wr.drew:=(New.refl wr).drew;have hS0:(fun w':World=>w'.cell? ⟨w.heap.size,1,none⟩=some (.slice (some ⟨b,off,none⟩) s.items.length s.ic)∧w'.cell? ⟨b,off+k*11+10,none⟩=some (I x.at_)∧w.heap.size<w'.heap.size∧b<w'.heap.size) wr.drew:=⟨hdr.cell p1,hdr.cell q10,World.block_lt_of_cell? _ _ (hdr.cell p1),World.block_lt_of_cell? _ _ (hdr.cell q10)⟩
     have G1:=Lib.hid (Keeps.heap hdr H1.out (fun h=>h));have G2:=Lib.hid (Keeps.heap hdr H2.out (fun h=>h));have hNN:=hN.trans hdr;have t0:=(show ¬w.heap.size=w.heap.size+1 by omega);have t1:=(show ¬b=w.heap.size+1 by omega)
     refine aj (fun w':World=>w'.cell? ⟨w.heap.size,1,none⟩=some (.slice (some ⟨b,off,none⟩) s.items.length s.ic)∧w'.cell? ⟨b,off+k*11+10,none⟩=some (I x.at_)∧w.heap.size<w'.heap.size∧b<w'.heap.size) [9] (by kernel_rfl) hS0 ?_;generalize wr.drew=wd at hS0 G1 G2 hNN ⊢;refine ae 0 hS0 ?_;refine ae 1 hS0 ?_;refine ae 2 hS0 ?_;refine ae 3 hS0 ?_;refine ae 4 hS0 ?_;refine ae 5 hS0 ?_;refine ae 6 hS0 ?_;refine ae 7 hS0 ?_;obtain⟨g0,g1,g2,g3,g4,hGl⟩:=an G1.out;obtain⟨f0,f1,z0,z1,hFl⟩:=cf G2.out;have hGf:∀i,wd.frozen? ⟨w.heap.size+1,i,none⟩=false:=fun i=>unfrozen_of_block G1.out i
     have gz0:=hGf 0;have gz1:=hGf 1;have gz2:=hGf 2;have gz3:=hGf 3;have gz4:=hGf 4;clear hGf;refine ag 8 ?_;intro K hK;(try simp only[Act.put,sLs])
     go_simp;refine hK _ _ (fun _=>⟨(aW G1.out _ _ _ _ _).2.cell hS0.1 t0,(aW G1.out _ _ _ _ _).2.cell hS0.2.1 t1,Nat.lt_of_lt_of_le hS0.2.2.1 (aW G1.out _ _ _ _ _).2.size,Nat.lt_of_lt_of_le hS0.2.2.2 (aW G1.out _ _ _ _ _).2.size⟩) ?_;clear hK K;refine ag 9 ?_;intro K hK;(try simp only[Act.put,sLs])
     go_simp;refine hK _ _ (fun hx=>by cases hx) ?_;clear hK K;refine av (by kernel_rfl) ?_;(try simp only[Act.put,sLs])
     (try simp only[Exit.then])
     go_wp2_with fail;clear g0 g1 g2 g3 g4 f0 f1 z0 z1 gz0 gz1 gz2 gz3 gz4 hFl hGl;generalize hW9:(((((((wd.setCell ⟨w.heap.size+1,0,none⟩ (.string ⟨#[]⟩)).setCell ⟨w.heap.size+1,1,none⟩ (.slice none 0 0)).setCell ⟨w.heap.size+1,2,none⟩ (.slice none 0 0)).setCell ⟨w.heap.size+1,3,none⟩ (.slice none 0 0)).setCell ⟨w.heap.size+1,4,none⟩ (.slice none 0 0)).setCell ⟨w.heap.size+1+1,0,none⟩ (I 1)).setCell ⟨w.heap.size+1+1,1,none⟩ (I x.at_))=W9;obtain⟨⟨⟨c0,c1,c2,c3,c4,hGl⟩,e0,e1,hFl⟩,k9⟩:=ci G1.out G2.out hW9;clear hW9;exact bodyPost_ret (v:= .tuple #[.agg #[.string ⟨#[]⟩,.slice none 0 0,.slice none 0 0,.slice none 0 0,.slice none 0 0],.agg #[I 1,I x.at_]]) (by simp[results,Tryz.results28,go_sem,c0,c1,c2,c3,c4,e0,e1,hGl,hFl]) rfl (HPP.out _ (New.keeps hNN k9 (fun i hi h=>by omega)))
   ·have hb1:¬x.kind<1:=by omega
    have hb2:¬4<x.kind:=by omega
    have d1:=decide_eq_false hb1;have d2:=decide_eq_false hb2;have HE3:=Lib.hid (HE2.out (by rw[HB.out];exact decide_eq_false rI));clear HE2 HF HB rI;go_wp2_with fail;go_roundw
    case rel=>exact⟨k+1,by omega,by go_num,by first|rfl|trivial,HE3⟩
    case measure=>simp[intOf];omega
  ·have hke:k=s.items.length:=by omega
   have hkd:decide (k<s.items.length)=false:=decide_eq_false hk1;have HFN:=Lib.hid (jW HE.out hke);have hkk:∀x∈s.items,1<=x.kind∧x.kind<=4:=fun x hx=>by
    have h:=List.find?_eq_none.1 HFN.out x hx;unfold gZ at h;simp at h;omega
   have hof:=HOF.out hkk;clear HE hke hk hk1 hkk HOF;have hfd:=fun(q:Gr) (hb:q.bare=ofT (aX s)) (W:World) (ha:GrAt W q)=>wK W q ha (xV hb HL.out)
   have hfe:=fun(q:Gr) (hb:q.bare=ofT (aX s))=>Ad hb
   have hf2:=rD (aX s);have hbf:cx s=if(bz (aX s)).1=0 then(0,0) else((bz (aX s)).1,fj s.items (bz (aX s)).2.1 (bz (aX s)).2.2.1 (bz (aX s)).2.2.2):=by unfold cx;rw[HFN.out]
   have hsm:=fun(h:(bz (aX s)).1=0)=>th h
   generalize bz (aX s)=f at hfe hf2 hbf hsm;obtain⟨fc,fk,fi,fd⟩:=f;simp only at hf2 hbf hsm;have HFD:=Lib.hid hfd;have HFE:=Lib.hid hfe;have HBF:=Lib.hid hbf;have HSM:=Lib.hid hsm;clear hfd hfe hbf hsm HFN;go_wp2_with fail;refine(hof wr hN).mono ?_;rintro e w1 ⟨q,rfl,hq,hqb,n1⟩;have hwl:=hN.size;have hF:=HFD.out q hqb;rw[HFE.out q hqb] at hF;have n2:New w1 (w1.alloc (.cells q.cs 26)):=(New.refl w1).alloc _;have hF2:=hF _ (hq.at.new n2);have HG:=Lib.hid (heap_alloc_new w1 (.cells q.cs 26));have HQ:=Lib.hid (hq.new n2);have HQB:=Lib.hid hqb;have hlo:w.heap.size+1+1<w1.heap.size:=Nat.lt_of_lt_of_le (Array.getElem?_eq_some_iff.1 H2.out).1 n1.size;have n12:=n1.trans n2;have N2:=Lib.hid (hN.trans n12);replace H0:=Lib.hid (Keeps.heap n12 H0.out (fun h=>h));replace H1:=Lib.hid (Keeps.heap n12 H1.out (fun h=>h));replace H2:=Lib.hid (Keeps.heap n12 H2.out (fun h=>h));simp only[Gr.v,Gr.cs,xU] at hF2 HG ⊢;clear hof hF hq hqb n1 n2 n12 hN p0 p1 hPs HFD HFE;go_wp2_with fail;generalize hBG:w1.heap.size=BG at HG hlo ⊢;generalize(w1.alloc (.cells #[.string q.name,.slice q.aa q.acts.length q.ac,.slice q.ea q.edges.length q.ec,.slice q.ia q.ins.length q.ic,.slice q.oa q.outs.length q.oc] 26))=w2 at hF2 HG HQ N2 H0 H1 H2 ⊢;refine hF2.mono ?_;rintro e w3 ⟨rfl,n3⟩;have hlw:w.heap.size+1+1<w3.heap.size:=Nat.lt_of_lt_of_le (Array.getElem?_eq_some_iff.1 H2.out).1 n3.size;have n4:New w3 (w3.alloc (.cells #[I fc,.int .u8 fk,I fi,I fd] 122)):=(New.refl w3).alloc _;have HW:=Lib.hid (heap_alloc_new w3 (.cells #[I fc,.int .u8 fk,I fi,I fd] 122));have n34:=n3.trans n4;have hN:=N2.out.trans n34;replace H0:=Lib.hid (Keeps.heap n34 H0.out (fun h=>h));replace H1:=Lib.hid (Keeps.heap n34 H1.out (fun h=>h));replace H2:=Lib.hid (Keeps.heap n34 H2.out (fun h=>h));replace HG:=Lib.hid (Keeps.heap n34 HG.out (fun h=>h));replace HQ:=Lib.hid (HQ.out.new n34);clear hF2 n3 n4 n34 N2 hBG;go_upto_if 47 with(fail)
   generalize hBW:w3.heap.size=BW at HW hlw ⊢;generalize(w3.alloc (.cells #[I fc,.int .u8 fk,I fi,I fd] 122))=w4 at HW hN H0 H1 H2 HG HQ ⊢;clear hBW;by_cases hf:fc=0
   ·have d0:(fc==0)=true:=by simp[hf]
    have HPP:Hid (∀W',Keeps (fun k=>k=w.heap.size+1∨k=w.heap.size+1+1) w4 W'->post (.returned (.tuple #[.agg #[.string q.name,.slice q.aa q.acts.length q.ac,.slice q.ea q.edges.length q.ec,.slice q.ia q.ins.length q.ic,.slice q.oa q.outs.length q.oc],.agg #[I 0,I 0]])) W'):=Lib.hid (fun W' kW=>by
     rw[<-HP.out];unfold mr;rw[HBF.out,if_pos hf,if_neg (by simp)];refine⟨_,q,hwl,rfl,HQ.out.other kW (fun g hg=>?_),by rw[HQB.out,HSM.out hf],New.keeps hN kW (fun i hi h=>by omega)⟩;rcases hg with rfl|rfl
     ·exact .inr ⟨_,_,_,H1.out,by decide,by decide,by decide,by decide⟩
     ·exact .inr ⟨_,_,_,H2.out,by decide,by decide,by decide,by decide⟩)
    have G1:=H1;have G2:=H2;obtain⟨⟨b0,b1,b2,b3⟩,-,hWl⟩:=ek HW.out;obtain⟨c0,c1,c2,c3,c4,Ds⟩:=an HG.out;clear hf;obtain⟨g0,g1,g2,g3,g4,hGl⟩:=an G1.out;obtain⟨f0,f1,z0,z1,hFl⟩:=cf G2.out;have hGf:∀i,w4.frozen? ⟨w.heap.size+1,i,none⟩=false:=fun i=>unfrozen_of_block G1.out i
    have gz0:=hGf 0;have gz1:=hGf 1;have gz2:=hGf 2;have gz3:=hGf 3;have gz4:=hGf 4;clear hGf;clear H1 H2;go_wp2_with fail;clear g0 g1 g2 g3 g4 f0 f1 z0 z1 gz0 gz1 gz2 gz3 gz4 hFl hGl c0 c1 c2 c3 c4 Ds b0 b1 b2 b3 hWl;generalize hW9:(((((((w4.setCell ⟨w.heap.size+1,0,none⟩ (.string q.name)).setCell ⟨w.heap.size+1,1,none⟩ (.slice q.aa q.acts.length q.ac)).setCell ⟨w.heap.size+1,2,none⟩ (.slice q.ea q.edges.length q.ec)).setCell ⟨w.heap.size+1,3,none⟩ (.slice q.ia q.ins.length q.ic)).setCell ⟨w.heap.size+1,4,none⟩ (.slice q.oa q.outs.length q.oc)).setCell ⟨w.heap.size+1+1,0,none⟩ (I 0)).setCell ⟨w.heap.size+1+1,1,none⟩ (I 0))=W9;obtain⟨⟨⟨c0,c1,c2,c3,c4,hGl⟩,e0,e1,hFl⟩,k9⟩:=ci G1.out G2.out hW9;clear hW9;exact bodyPost_ret (v:= .tuple #[.agg #[.string q.name,.slice q.aa q.acts.length q.ac,.slice q.ea q.edges.length q.ec,.slice q.ia q.ins.length q.ic,.slice q.oa q.outs.length q.oc],.agg #[I 0,I 0]]) (by simp[results,Tryz.results28,go_sem,c0,c1,c2,c3,c4,e0,e1,hGl,hFl]) rfl (HPP.out _ k9)
   ·have d0:(fc==0)=false:=by simp[hf]
    obtain⟨r,hr⟩:∃r,fj s.items fk fi fd=r:=⟨_,rfl⟩
    have HPP:Hid (∀W',New w W'->post (.returned (.tuple #[.agg #[.string ⟨#[]⟩,.slice none 0 0,.slice none 0 0,.slice none 0 0,.slice none 0 0],.agg #[I fc,I r]])) W'):=Lib.hid (fun W' kW=>by
     rw[<-HP.out];unfold mr;rw[HBF.out,if_neg hf,if_pos hf,hr];exact⟨rfl,kW⟩)
    have HR:=Lib.hid hr;obtain⟨⟨b0,b1,b2,b3⟩,-,hWl⟩:=ek HW.out;clear hr hf HBF HSM HQB HQ HG;go_wp2_with fail;clear b0 b1 b2 b3 hWl;go_loopw [7,8] (fun n j wr=>∃(k:Nat) (m:Nat),k<=s.items.length∧j= .int .i64 k∧n= .int .i64 m∧m<=k∧(m:Int)<=fi∧Hid (m=(ofK fk (s.items.take k)).length∧New w4 wr)) (fun _ j _=>s.items.length-(intOf j).toNat)
    case atStart=>exact⟨0,0,by omega,rfl,rfl,by omega,by omega,Lib.hid ⟨rfl,New.refl _⟩⟩
    case round=>
     obtain⟨k,m,hk,rfl,rfl,hmk,hmi,HM⟩:=hrel;have hNr:=hN.trans HM.out.2;obtain⟨p0,p1,-,-,hPs⟩:=cR (Keeps.heap HM.out.2 H0.out (fun h=>h));obtain⟨⟨b0,b1,b2,b3⟩,-,hWl⟩:=ek (Keeps.heap HM.out.2 HW.out (fun h=>h));by_cases hk1:k<s.items.length
     ·have hkI:(k:Int)<(s.items.length:Int):=by omega
      have hkd:decide (k<s.items.length)=true:=decide_eq_true hk1;obtain⟨b,off,hab,q0,q1,q2,q3,q4,q5,q6,q7,q8,q9,q10⟩:=eu (HS.out.new hNr).sl hk1;have hbw:b<wr.heap.size:=World.block_lt_of_cell? wr _ q0;have e:si=some ⟨b,off,none⟩:=HSI.out.symm.trans hab;subst e;have HT:=Lib.hid (l6 (kd:=fk) hk1);have HH:Hid (s.items[k].kind=fk->(m:Int)=fi->r=if fd=1 then s.items[k].fa else if fd=2 then s.items[k].ta else s.items[k].at_):=Lib.hid (fun h1 h2=>by rw[<-HR.out];exact pX hk1 h1 (by rw[<-HM.out.1];exact h2));clear hab;generalize s.items[k]=x at q0 q1 q2 q3 q4 q5 q6 q7 q8 q9 q10 HT HH;have kb:New wr (wr.alloc (.cells #[.int .u8 x.kind,.string x.name,.string x.tag,.slice x.a x.xs.length x.c,.string x.fn,I x.fp,I x.fa,.string x.tn,I x.tp,I x.ta,I x.at_] 105)):=(New.refl wr).alloc _;have hby:(wr.alloc (.cells #[.int .u8 x.kind,.string x.name,.string x.tag,.slice x.a x.xs.length x.c,.string x.fn,I x.fp,I x.fa,.string x.tn,I x.tp,I x.ta,I x.at_] 105)).heap[wr.heap.size]? =some (.cells #[.int .u8 x.kind,.string x.name,.string x.tag,.slice x.a x.xs.length x.c,.string x.fn,I x.fp,I x.fa,.string x.tn,I x.tp,I x.ta,I x.at_] 105 (0,0)):=heap_alloc_new wr _;have hlY:w.heap.size+1+1<wr.heap.size:=Nat.lt_of_lt_of_le (Array.getElem?_eq_some_iff.1 H2.out).1 HM.out.2.size;by_cases hkk:x.kind=fk
      ·have d1:(x.kind != fk)=false:=by simp[hkk]
       by_cases hmi2:(m:Int)=fi
       ·have d2:((m:Int)==fi)=true:=by simp[hmi2]
        have HV:=Lib.hid (HH.out hkk hmi2);obtain⟨⟨y0,-,-,-,-,-,y6,-,-,y9,y10⟩,hYl⟩:=fQ (x:=x) hby;have b0':=kb.cell b0;replace H1:=Lib.hid (Keeps.heap (HM.out.2.trans kb) H1.out (fun h=>h));replace H2:=Lib.hid (Keeps.heap (HM.out.2.trans kb) H2.out (fun h=>h));replace hN:=hNr.trans kb;clear HH HT hkk hmi2 hNr HM;by_cases e1:fd=1
        ·have d3:(fd==1)=true:=by simp[e1]
         rw[if_pos e1] at HV;clear e1;go_wp2_with fail;generalize(wr.alloc (.cells #[.int .u8 x.kind,.string x.name,.string x.tag,.slice x.a x.xs.length x.c,.string x.fn,I x.fp,I x.fa,.string x.tn,I x.tp,I x.ta,I x.at_] 105))=w5 at H1 H2 hN b0' y0 y6 y9 y10 hYl hby ⊢;generalize wr.heap.size=Y at y0 y6 y9 y10 hYl hby hlY ⊢;clear q0 q1 q2 q3 q4 q5 q6 q7 q8 q9 q10 hbw kb hby p0 p1 hPs b0 b1 b2 b3 hWl y0;rw[HV.out] at HPP;have hdr:New w5 w5.drew:=(New.refl w5).drew;have hS0:(fun w':World=>w'.cell? ⟨BW,0,none⟩=some (I fc)∧w'.cell? ⟨Y,6,none⟩=some (I x.fa)∧BW<w'.heap.size∧Y<w'.heap.size) w5.drew:=⟨hdr.cell b0',hdr.cell y6,World.block_lt_of_cell? _ _ (hdr.cell b0'),World.block_lt_of_cell? _ _ (hdr.cell y6)⟩
         have G1:=Lib.hid (Keeps.heap hdr H1.out (fun h=>h));have G2:=Lib.hid (Keeps.heap hdr H2.out (fun h=>h));have hNN:=hN.trans hdr;have t0:=(show ¬BW=w.heap.size+1 by omega);have t1:=(show ¬Y=w.heap.size+1 by omega)
         refine aj (fun w':World=>w'.cell? ⟨BW,0,none⟩=some (I fc)∧w'.cell? ⟨Y,6,none⟩=some (I x.fa)∧BW<w'.heap.size∧Y<w'.heap.size) [8] (by kernel_rfl) hS0 ?_;generalize w5.drew=wd at hS0 G1 G2 hNN ⊢;refine ae 0 hS0 ?_;refine ae 1 hS0 ?_;refine ae 2 hS0 ?_;refine ae 3 hS0 ?_;refine ae 4 hS0 ?_;refine ae 5 hS0 ?_;refine ae 6 hS0 ?_;obtain⟨g0,g1,g2,g3,g4,hGl⟩:=an G1.out;obtain⟨f0,f1,z0,z1,hFl⟩:=cf G2.out;have hGf:∀i,wd.frozen? ⟨w.heap.size+1,i,none⟩=false:=fun i=>unfrozen_of_block G1.out i
         have gz0:=hGf 0;have gz1:=hGf 1;have gz2:=hGf 2;have gz3:=hGf 3;have gz4:=hGf 4;clear hGf;refine ag 7 ?_;intro K hK;(try simp only[Act.put,sLs])
         go_simp;refine hK _ _ (fun _=>⟨(aW G1.out _ _ _ _ _).2.cell hS0.1 t0,(aW G1.out _ _ _ _ _).2.cell hS0.2.1 t1,Nat.lt_of_lt_of_le hS0.2.2.1 (aW G1.out _ _ _ _ _).2.size,Nat.lt_of_lt_of_le hS0.2.2.2 (aW G1.out _ _ _ _ _).2.size⟩) ?_;clear hK K;refine ag 8 ?_;intro K hK;(try simp only[Act.put,sLs])
         go_simp;refine hK _ _ (fun hx=>by cases hx) ?_;clear hK K;refine av (by kernel_rfl) ?_;(try simp only[Act.put,sLs])
         (try simp only[Exit.then])
         go_wp2_with fail;clear g0 g1 g2 g3 g4 f0 f1 z0 z1 gz0 gz1 gz2 gz3 gz4 hFl hGl;generalize hW9:(((((((wd.setCell ⟨w.heap.size+1,0,none⟩ (.string ⟨#[]⟩)).setCell ⟨w.heap.size+1,1,none⟩ (.slice none 0 0)).setCell ⟨w.heap.size+1,2,none⟩ (.slice none 0 0)).setCell ⟨w.heap.size+1,3,none⟩ (.slice none 0 0)).setCell ⟨w.heap.size+1,4,none⟩ (.slice none 0 0)).setCell ⟨w.heap.size+1+1,0,none⟩ (I fc)).setCell ⟨w.heap.size+1+1,1,none⟩ (I x.fa))=W9;obtain⟨⟨⟨c0,c1,c2,c3,c4,hGl⟩,e0,e1,hFl⟩,k9⟩:=ci G1.out G2.out hW9;clear hW9;exact bodyPost_ret (v:= .tuple #[.agg #[.string ⟨#[]⟩,.slice none 0 0,.slice none 0 0,.slice none 0 0,.slice none 0 0],.agg #[I fc,I x.fa]]) (by simp[results,Tryz.results28,go_sem,c0,c1,c2,c3,c4,e0,e1,hGl,hFl]) rfl (HPP.out _ (New.keeps hNN k9 (fun i hi h=>by omega)))
        ·have d3:(fd==1)=false:=by simp[e1]
         rw[if_neg e1] at HV;clear e1;by_cases e2:fd=2
         ·have d4:(fd==2)=true:=by simp[e2]
          rw[if_pos e2] at HV;clear e2;go_wp2_with fail;generalize(wr.alloc (.cells #[.int .u8 x.kind,.string x.name,.string x.tag,.slice x.a x.xs.length x.c,.string x.fn,I x.fp,I x.fa,.string x.tn,I x.tp,I x.ta,I x.at_] 105))=w5 at H1 H2 hN b0' y0 y6 y9 y10 hYl hby ⊢;generalize wr.heap.size=Y at y0 y6 y9 y10 hYl hby hlY ⊢;clear q0 q1 q2 q3 q4 q5 q6 q7 q8 q9 q10 hbw kb hby p0 p1 hPs b0 b1 b2 b3 hWl y0;rw[HV.out] at HPP;have hdr:New w5 w5.drew:=(New.refl w5).drew;have hS0:(fun w':World=>w'.cell? ⟨BW,0,none⟩=some (I fc)∧w'.cell? ⟨Y,9,none⟩=some (I x.ta)∧BW<w'.heap.size∧Y<w'.heap.size) w5.drew:=⟨hdr.cell b0',hdr.cell y9,World.block_lt_of_cell? _ _ (hdr.cell b0'),World.block_lt_of_cell? _ _ (hdr.cell y9)⟩
          have G1:=Lib.hid (Keeps.heap hdr H1.out (fun h=>h));have G2:=Lib.hid (Keeps.heap hdr H2.out (fun h=>h));have hNN:=hN.trans hdr;have t0:=(show ¬BW=w.heap.size+1 by omega);have t1:=(show ¬Y=w.heap.size+1 by omega)
          refine aj (fun w':World=>w'.cell? ⟨BW,0,none⟩=some (I fc)∧w'.cell? ⟨Y,9,none⟩=some (I x.ta)∧BW<w'.heap.size∧Y<w'.heap.size) [8] (by kernel_rfl) hS0 ?_;generalize w5.drew=wd at hS0 G1 G2 hNN ⊢;refine ae 0 hS0 ?_;refine ae 1 hS0 ?_;refine ae 2 hS0 ?_;refine ae 3 hS0 ?_;refine ae 4 hS0 ?_;refine ae 5 hS0 ?_;refine ae 6 hS0 ?_;obtain⟨g0,g1,g2,g3,g4,hGl⟩:=an G1.out;obtain⟨f0,f1,z0,z1,hFl⟩:=cf G2.out;have hGf:∀i,wd.frozen? ⟨w.heap.size+1,i,none⟩=false:=fun i=>unfrozen_of_block G1.out i
          have gz0:=hGf 0;have gz1:=hGf 1;have gz2:=hGf 2;have gz3:=hGf 3;have gz4:=hGf 4;clear hGf;refine ag 7 ?_;intro K hK;(try simp only[Act.put,sLs])
          go_simp;refine hK _ _ (fun _=>⟨(aW G1.out _ _ _ _ _).2.cell hS0.1 t0,(aW G1.out _ _ _ _ _).2.cell hS0.2.1 t1,Nat.lt_of_lt_of_le hS0.2.2.1 (aW G1.out _ _ _ _ _).2.size,Nat.lt_of_lt_of_le hS0.2.2.2 (aW G1.out _ _ _ _ _).2.size⟩) ?_;clear hK K;refine ag 8 ?_;intro K hK;(try simp only[Act.put,sLs])
          go_simp;refine hK _ _ (fun hx=>by cases hx) ?_;clear hK K;refine av (by kernel_rfl) ?_;(try simp only[Act.put,sLs])
          (try simp only[Exit.then])
          go_wp2_with fail;clear g0 g1 g2 g3 g4 f0 f1 z0 z1 gz0 gz1 gz2 gz3 gz4 hFl hGl;generalize hW9:(((((((wd.setCell ⟨w.heap.size+1,0,none⟩ (.string ⟨#[]⟩)).setCell ⟨w.heap.size+1,1,none⟩ (.slice none 0 0)).setCell ⟨w.heap.size+1,2,none⟩ (.slice none 0 0)).setCell ⟨w.heap.size+1,3,none⟩ (.slice none 0 0)).setCell ⟨w.heap.size+1,4,none⟩ (.slice none 0 0)).setCell ⟨w.heap.size+1+1,0,none⟩ (I fc)).setCell ⟨w.heap.size+1+1,1,none⟩ (I x.ta))=W9;obtain⟨⟨⟨c0,c1,c2,c3,c4,hGl⟩,e0,e1,hFl⟩,k9⟩:=ci G1.out G2.out hW9;clear hW9;exact bodyPost_ret (v:= .tuple #[.agg #[.string ⟨#[]⟩,.slice none 0 0,.slice none 0 0,.slice none 0 0,.slice none 0 0],.agg #[I fc,I x.ta]]) (by simp[results,Tryz.results28,go_sem,c0,c1,c2,c3,c4,e0,e1,hGl,hFl]) rfl (HPP.out _ (New.keeps hNN k9 (fun i hi h=>by omega)))
         ·have d4:(fd==2)=false:=by simp[e2]
          rw[if_neg e2] at HV;clear e2;go_wp2_with fail;generalize(wr.alloc (.cells #[.int .u8 x.kind,.string x.name,.string x.tag,.slice x.a x.xs.length x.c,.string x.fn,I x.fp,I x.fa,.string x.tn,I x.tp,I x.ta,I x.at_] 105))=w5 at H1 H2 hN b0' y0 y6 y9 y10 hYl hby ⊢;generalize wr.heap.size=Y at y0 y6 y9 y10 hYl hby hlY ⊢;clear q0 q1 q2 q3 q4 q5 q6 q7 q8 q9 q10 hbw kb hby p0 p1 hPs b0 b1 b2 b3 hWl y0;rw[HV.out] at HPP;have hdr:New w5 w5.drew:=(New.refl w5).drew;have hS0:(fun w':World=>w'.cell? ⟨BW,0,none⟩=some (I fc)∧w'.cell? ⟨Y,10,none⟩=some (I x.at_)∧BW<w'.heap.size∧Y<w'.heap.size) w5.drew:=⟨hdr.cell b0',hdr.cell y10,World.block_lt_of_cell? _ _ (hdr.cell b0'),World.block_lt_of_cell? _ _ (hdr.cell y10)⟩
          have G1:=Lib.hid (Keeps.heap hdr H1.out (fun h=>h));have G2:=Lib.hid (Keeps.heap hdr H2.out (fun h=>h));have hNN:=hN.trans hdr;have t0:=(show ¬BW=w.heap.size+1 by omega);have t1:=(show ¬Y=w.heap.size+1 by omega)
          refine aj (fun w':World=>w'.cell? ⟨BW,0,none⟩=some (I fc)∧w'.cell? ⟨Y,10,none⟩=some (I x.at_)∧BW<w'.heap.size∧Y<w'.heap.size) [7] (by kernel_rfl) hS0 ?_;generalize w5.drew=wd at hS0 G1 G2 hNN ⊢;refine ae 0 hS0 ?_;refine ae 1 hS0 ?_;refine ae 2 hS0 ?_;refine ae 3 hS0 ?_;refine ae 4 hS0 ?_;refine ae 5 hS0 ?_;obtain⟨g0,g1,g2,g3,g4,hGl⟩:=an G1.out;obtain⟨f0,f1,z0,z1,hFl⟩:=cf G2.out;have hGf:∀i,wd.frozen? ⟨w.heap.size+1,i,none⟩=false:=fun i=>unfrozen_of_block G1.out i
          have gz0:=hGf 0;have gz1:=hGf 1;have gz2:=hGf 2;have gz3:=hGf 3;have gz4:=hGf 4;clear hGf;refine ag 6 ?_;intro K hK;(try simp only[Act.put,sLs])
          go_simp;refine hK _ _ (fun _=>⟨(aW G1.out _ _ _ _ _).2.cell hS0.1 t0,(aW G1.out _ _ _ _ _).2.cell hS0.2.1 t1,Nat.lt_of_lt_of_le hS0.2.2.1 (aW G1.out _ _ _ _ _).2.size,Nat.lt_of_lt_of_le hS0.2.2.2 (aW G1.out _ _ _ _ _).2.size⟩) ?_;clear hK K;refine ag 7 ?_;intro K hK;(try simp only[Act.put,sLs])
          go_simp;refine hK _ _ (fun hx=>by cases hx) ?_;clear hK K;refine av (by kernel_rfl) ?_;(try simp only[Act.put,sLs])
          (try simp only[Exit.then])
          go_wp2_with fail;clear g0 g1 g2 g3 g4 f0 f1 z0 z1 gz0 gz1 gz2 gz3 gz4 hFl hGl;generalize hW9:(((((((wd.setCell ⟨w.heap.size+1,0,none⟩ (.string ⟨#[]⟩)).setCell ⟨w.heap.size+1,1,none⟩ (.slice none 0 0)).setCell ⟨w.heap.size+1,2,none⟩ (.slice none 0 0)).setCell ⟨w.heap.size+1,3,none⟩ (.slice none 0 0)).setCell ⟨w.heap.size+1,4,none⟩ (.slice none 0 0)).setCell ⟨w.heap.size+1+1,0,none⟩ (I fc)).setCell ⟨w.heap.size+1+1,1,none⟩ (I x.at_))=W9;obtain⟨⟨⟨c0,c1,c2,c3,c4,hGl⟩,e0,e1,hFl⟩,k9⟩:=ci G1.out G2.out hW9;clear hW9;exact bodyPost_ret (v:= .tuple #[.agg #[.string ⟨#[]⟩,.slice none 0 0,.slice none 0 0,.slice none 0 0,.slice none 0 0],.agg #[I fc,I x.at_]]) (by simp[results,Tryz.results28,go_sem,c0,c1,c2,c3,c4,e0,e1,hGl,hFl]) rfl (HPP.out _ (New.keeps hNN k9 (fun i hi h=>by omega)))
       ·have d2:((m:Int)==fi)=false:=by simp[hmi2]
        have hlt:(m:Int)+1<=fi:=by omega
        have HT2:Hid ((ofK fk (s.items.take (k+1))).length=m+1):=Lib.hid (by rw[HT.out,if_pos hkk,List.length_append,HM.out.1];rfl);clear HH HT hkk hmi2;go_wp2_with fail;go_roundw
        case rel=>exact⟨k+1,m+1,by omega,by go_num,by go_num,by omega,by omega,Lib.hid ⟨HT2.out.symm,HM.out.2.trans kb⟩⟩
        case measure=>simp[intOf];omega
      ·have d1:(x.kind != fk)=true:=by simp[hkk]
       have HT2:Hid ((ofK fk (s.items.take (k+1))).length=m):=Lib.hid (by rw[HT.out,if_neg hkk,HM.out.1]);clear HH HT hkk;go_wp2_with fail;go_roundw
       case rel=>exact⟨k+1,m,by omega,by go_num,rfl,by omega,by omega,Lib.hid ⟨HT2.out.symm,HM.out.2.trans kb⟩⟩
       case measure=>simp[intOf];omega
     ·have hke:k=s.items.length:=by omega
      have hkd:decide (k<s.items.length)=false:=decide_eq_false hk1;have HV:Hid (r=0):=Lib.hid (by
       rw[<-HR.out];refine oS ?_;have h1:=HM.out.1;rw[hke,List.take_length] at h1;omega)
      replace H1:=Lib.hid (Keeps.heap HM.out.2 H1.out (fun h=>h));replace H2:=Lib.hid (Keeps.heap HM.out.2 H2.out (fun h=>h));replace hN:=hNr;rw[HV.out] at HPP;clear hke hk hk1 hNr;go_wp2_with fail;have hdr:New wr wr.drew:=(New.refl wr).drew;have hS0:(fun w':World=>w'.cell? ⟨BW,0,none⟩=some (I fc)∧BW<w'.heap.size) wr.drew:=⟨hdr.cell b0,World.block_lt_of_cell? _ _ (hdr.cell b0)⟩
      have G1:=Lib.hid (Keeps.heap hdr H1.out (fun h=>h));have G2:=Lib.hid (Keeps.heap hdr H2.out (fun h=>h));have hNN:=hN.trans hdr;have t0:=(show ¬BW=w.heap.size+1 by omega)
      refine aj (fun w':World=>w'.cell? ⟨BW,0,none⟩=some (I fc)∧BW<w'.heap.size) [5] (by kernel_rfl) hS0 ?_;generalize wr.drew=wd at hS0 G1 G2 hNN ⊢;refine ae 0 hS0 ?_;refine ae 1 hS0 ?_;refine ae 2 hS0 ?_;refine ae 3 hS0 ?_;obtain⟨g0,g1,g2,g3,g4,hGl⟩:=an G1.out;obtain⟨f0,f1,z0,z1,hFl⟩:=cf G2.out;have hGf:∀i,wd.frozen? ⟨w.heap.size+1,i,none⟩=false:=fun i=>unfrozen_of_block G1.out i
      have gz0:=hGf 0;have gz1:=hGf 1;have gz2:=hGf 2;have gz3:=hGf 3;have gz4:=hGf 4;clear hGf;refine ag 4 ?_;intro K hK;(try simp only[Act.put,sLs])
      go_simp;refine hK _ _ (fun _=>⟨(aW G1.out _ _ _ _ _).2.cell hS0.1 t0,Nat.lt_of_lt_of_le hS0.2 (aW G1.out _ _ _ _ _).2.size⟩) ?_;clear hK K;refine ag 5 ?_;intro K hK;(try simp only[Act.put,sLs])
      go_simp;refine hK _ _ (fun hx=>by cases hx) ?_;clear hK K;refine av (by kernel_rfl) ?_;(try simp only[Act.put,sLs])
      (try simp only[Exit.then])
      go_wp2_with fail;clear g0 g1 g2 g3 g4 f0 f1 z0 z1 gz0 gz1 gz2 gz3 gz4 hFl hGl;generalize hW9:(((((((wd.setCell ⟨w.heap.size+1,0,none⟩ (.string ⟨#[]⟩)).setCell ⟨w.heap.size+1,1,none⟩ (.slice none 0 0)).setCell ⟨w.heap.size+1,2,none⟩ (.slice none 0 0)).setCell ⟨w.heap.size+1,3,none⟩ (.slice none 0 0)).setCell ⟨w.heap.size+1,4,none⟩ (.slice none 0 0)).setCell ⟨w.heap.size+1+1,0,none⟩ (I fc)).setCell ⟨w.heap.size+1+1,1,none⟩ (I 0))=W9;obtain⟨⟨⟨c0,c1,c2,c3,c4,hGl⟩,e0,e1,hFl⟩,k9⟩:=ci G1.out G2.out hW9;clear hW9;exact bodyPost_ret (v:= .tuple #[.agg #[.string ⟨#[]⟩,.slice none 0 0,.slice none 0 0,.slice none 0 0,.slice none 0 0],.agg #[I fc,I 0]]) (by simp[results,Tryz.results28,go_sem,c0,c1,c2,c3,c4,e0,e1,hGl,hFl]) rfl (HPP.out _ (New.keeps hNN k9 (fun i hi h=>by omega)))
end Go.Proofs.YtnedmonlofbahaaGreatDoor
