/-
  GrU, GrV, GrW, GrX, GrY: what is wanted of them.
-/
import Derived.Test.YtnedmonlofbahaaGreatDoorGwD
set_option maxRecDepth 100000
set_option maxHeartbeats 32000000
namespace Go.Proofs.YtnedmonlofbahaaGreatDoor
open Go Go.RowKit Go.Joins
set_option linter.all false
theorem SkOwn.spot {w:World} {B R:Nat} {s:Sk} {cs:Array Value} (h:SkOwn w B s) (hb:w.heap[R]? =some (.cells cs 52 (0,0))) (u v:Value):SkOwn ((w.setCell ⟨R,0,none⟩ u).setCell ⟨R,1,none⟩ v) B s:=by
 have k:Keeps (fun k=>k=R) w ((w.setCell ⟨R,0,none⟩ u).setCell ⟨R,1,none⟩ v):=(Keeps.setCell (S:=fun k=>k=R) w _ _ rfl).trans (Keeps.setCell (S:=fun k=>k=R) _ _ _ rfl) (fun _ _ h=>h);have hR:∀e:TypeId,52≠e->∀g,g=R->∃cur t fr,w.heap[g]? =some (.cells cur t fr)∧t≠e:=fun e he g hg=>⟨_,_,_,hg▸hb,he⟩
 exact⟨al h.io k (hR _ (by decide)),fun x hx=>al (h.nx x hx) k (hR _ (by decide)),h.ap⟩
theorem cR {w:World} {C:Nat} {a0 a1:Value} (h:w.heap[C]? =some (.cells #[a0,a1] 52 (0,0))):
  w.cell? ⟨C,0,none⟩=some a0∧w.cell? ⟨C,1,none⟩=some a1∧w.frozen? ⟨C,0,none⟩=false∧w.frozen? ⟨C,1,none⟩=false∧C<w.heap.size:=by
 refine⟨?_,?_,unfrozen_of_block h 0,unfrozen_of_block h 1,(Array.getElem?_eq_some_iff.1 h).1⟩;all_goals rw[cell_of_block h];rfl
structure DrawAt (w:World) (g:Gr) (P:Nat) (D:List SIt) (s:Sk) (w':World):Prop where
 sk:SkB w' w.heap.size P s
 nm:s.name=g.name
 it:s.items.map SIt.bare=D
 nw:New w w'
 hg:w'.heap[w.heap.size]? =some (.cells g.cs 26 (0,0))
 hr:w'.heap[w.heap.size+1]? =some (.cells #[.string ⟨#[]⟩,.slice none 0 0] 52 (0,0))
 hP:w.heap.size+1<P
theorem DrawAt.new {w w1 w2:World} {g:Gr} {P:Nat} {D:List SIt} {s:Sk} (h:DrawAt w g P D s w1) (k:New w1 w2):DrawAt w g P D s w2:=
 ⟨h.sk.new k,h.nm,h.it,h.nw.trans k,Keeps.heap k h.hg (fun h=>h),Keeps.heap k h.hr (fun h=>h),h.hP⟩
theorem DrawAt.ne {w w':World} {g:Gr} {P:Nat} {D:List SIt} {s:Sk} (h:DrawAt w g P D s w') {b:Nat} {cs:Array Value} {t:TypeId} (hb:w'.heap[b]? =some (.cells cs t (0,0))) (ht:t≠105):¬blk s.ia b:=fun hx=>by
 obtain⟨cur,hc⟩:=aL h.sk.own.io (aV hx);rw[hb] at hc;simp at hc;exact ht hc.2
theorem DrawAt.add {w w1 w2 w3:World} {g:Gr} {P:Nat} {D D':List SIt} {s:Sk} (h:DrawAt w g P D s w1) (x:SIt) (hx:bc w2 w.heap.size x.a x.c x.xs) (hd:∀k,blk x.a k->w1.heap.size<=k) (k12:New w1 w2) (hD:(s.items++[x]).map SIt.bare=D')
  {a':Option Addr} {c':Nat} (ho:w3.ownsRow w.heap.size 105 11 (.slice a' (s.items.length+1) c') (s.items.length+1) (s.items.flatMap br++br x)) (hk:Keeps (blk s.ia) w2 w3):
  (w3.cell? ⟨P,1,none⟩=some (.slice s.ia s.items.length s.ic)∧w3.frozen? ⟨P,1,none⟩=false∧P<w3.heap.size)∧
  DrawAt w g P D' { s with ia:=a',ic:=c',items:=s.items++[x] } (w3.setCell ⟨P,1,none⟩ (.slice a' (s.items.length+1) c')):=by
 obtain⟨hc,hs,hkk⟩:=h.sk.add x hx hd k12 ho hk;have hP:=h.hP;have hb:∀ {b:Nat} {cs:Array Value} {t:TypeId},w1.heap[b]? =some (.cells cs t (0,0))->t≠105->b≠P->(w3.setCell ⟨P,1,none⟩ (.slice a' (s.items.length+1) c')).heap[b]? =some (.cells cs t (0,0)):=fun hb ht hne=>
  hkk.heap hb (fun hx=>by
   rcases hx with hx|hx
   ·exact hne hx
   ·exact h.ne hb ht hx)
 exact⟨hc,hs,h.nm,hD,h.sk.news rfl (by omega) h.nw hkk,hb h.hg (by decide) (by omega),hb h.hr (by decide) (by omega),hP⟩
theorem sW (w:World) (g:Gr) (hg:GrAt w g) (hl:GLen g) (hw:∀x∈g.acts,0<=x.tag∧x.tag<=255) (h:(bz g).1=0):
  Calls Tryz.prog 40 #[g.v] w fun e w'=>∃s:Sk,e= .returned (.tuple #[s.v,I 0])∧SkOwn w' w.heap.size s∧s.bare=fs g∧New w w':=by
 have HS:=Lib.hid (sG h);have HC:∀W,New w W->Calls Tryz.prog 22 #[g.v] W fun en w'=>en= .returned (I 0)∧New W w':=fun W k=>by
  have:=sV W g (hg.new k) hl;rwa [h] at this
 obtain⟨it,hit,hz0,hz1,hz2⟩:=info_parts oA;have HG:=Lib.hid hg;have HW:=Lib.hid hw;have hla:=hl.a;have hle:=hl.e;have hli:=hl.i;have hlo:=hl.o;clear hg hl h hw;obtain⟨post,cu⟩:∃post:Ending->World->Prop,(fun e w'=>∃s:Sk,e= .returned (.tuple #[s.v,I 0])∧SkOwn w' w.heap.size s∧s.bare=fs g∧New w w')=post:=⟨_,rfl⟩
 rw[cu];have HP:=Lib.hid cu;clear cu;obtain⟨aA,hA⟩:∃a,g.aa=a:=⟨_,rfl⟩
 obtain⟨aE,hE⟩:∃a,g.ea=a:=⟨_,rfl⟩
 obtain⟨aI,hI⟩:∃a,g.ia=a:=⟨_,rfl⟩
 obtain⟨aO,hO⟩:∃a,g.oa=a:=⟨_,rfl⟩
 have HA:=Lib.hid hA;have HE:=Lib.hid hE;have HI:=Lib.hid hI;have HO:=Lib.hid hO;clear hA hE hI hO;simp only[Gr.v,Gr.cs] at HC ⊢;go_enter Tryz.func40,Tryz.ntmps40;go_wp2_with fail;have na:New w (w.alloc (.cells #[.string g.name,.slice g.aa g.acts.length g.ac,.slice g.ea g.edges.length g.ec,.slice g.ia g.ins.length g.ic,.slice g.oa g.outs.length g.oc] 26)):=(New.refl w).alloc _;have ha:(w.alloc (.cells #[.string g.name,.slice g.aa g.acts.length g.ac,.slice g.ea g.edges.length g.ec,.slice g.ia g.ins.length g.ic,.slice g.oa g.outs.length g.oc] 26)).heap[w.heap.size]? =some (.cells #[.string g.name,.slice g.aa g.acts.length g.ac,.slice g.ea g.edges.length g.ec,.slice g.ia g.ins.length g.ic,.slice g.oa g.outs.length g.oc] 26 (0,0)):=heap_alloc_new w _;have sa:(w.alloc (.cells #[.string g.name,.slice g.aa g.acts.length g.ac,.slice g.ea g.edges.length g.ec,.slice g.ia g.ins.length g.ic,.slice g.oa g.outs.length g.oc] 26)).heap.size=w.heap.size+1:=aG _ _;generalize(w.alloc (.cells #[.string g.name,.slice g.aa g.acts.length g.ac,.slice g.ea g.edges.length g.ec,.slice g.ia g.ins.length g.ic,.slice g.oa g.outs.length g.oc] 26))=wa at na ha sa ⊢;have nb:New wa (wa.alloc (.cells #[.string ⟨#[]⟩,.slice none 0 0] 52)):=(New.refl wa).alloc _;have hb:(wa.alloc (.cells #[.string ⟨#[]⟩,.slice none 0 0] 52)).heap[wa.heap.size]? =some (.cells #[.string ⟨#[]⟩,.slice none 0 0] 52 (0,0)):=heap_alloc_new wa _;rw[sa] at hb;have hs0:(wa.alloc (.cells #[.string ⟨#[]⟩,.slice none 0 0] 52)).heap.size=w.heap.size+1+1:=by rw[aG,sa]
 generalize(wa.alloc (.cells #[.string ⟨#[]⟩,.slice none 0 0] 52))=wb at nb hb hs0 ⊢;have HX:=Lib.hid (Keeps.heap nb ha (fun h=>h));have HB:=Lib.hid hb;have hN:New w wb:=na.trans nb;clear na nb ha hb sa;refine(HC wb hN).mono ?_;rintro e W1 ⟨rfl,k1⟩;replace HX:=Lib.hid (Keeps.heap k1 HX.out (fun h=>h));replace HB:=Lib.hid (Keeps.heap k1 HB.out (fun h=>h));replace hN:=hN.trans k1;have hsz:w.heap.size+1<W1.heap.size:=(Array.getElem?_eq_some_iff.1 HB.out).1;clear k1 hs0;obtain⟨g0,g1,g2,g3,g4,hGl⟩:=an HX.out;rw[HA.out] at g1;go_wp2_with fail;have ks:New W1 (W1.alloc (.cells #[.string g.name,.slice none 0 0] 52)):=(New.refl W1).alloc _;have hp:(W1.alloc (.cells #[.string g.name,.slice none 0 0] 52)).heap[W1.heap.size]? =some (.cells #[.string g.name,.slice none 0 0] 52 (0,0)):=heap_alloc_new W1 _;generalize(W1.alloc (.cells #[.string g.name,.slice none 0 0] 52))=W2 at ks hp ⊢;generalize W1.heap.size=P at hp hsz ⊢;have hD:DrawAt w g P [] ⟨g.name,none,0,[]⟩ W2:=⟨⟨hp,⟨World.ownsRow_nil _ _ _ _,(fun x hx=>by cases hx),List.Pairwise.nil⟩⟩,rfl,rfl,hN.trans ks,Keeps.heap ks HX.out (fun h=>h),Keeps.heap ks HB.out (fun h=>h),hsz⟩
 have HD:Hid (DrawAt w g P ([]++(g.acts.take 0).map eE) ⟨g.name,none,0,[]⟩ W2):=Lib.hid (by simpa using hD);clear ks hp hD HX HB hN HC g0 g1 g2 g3 g4 hGl;go_loopw [30] (fun i wr=>∃(k:Nat) (s:Sk),k<=g.acts.length∧i= .int .i64 k∧Hid (DrawAt w g P ([]++(g.acts.take k).map (eE)) s wr)) (fun i _=>g.acts.length-(intOf i).toNat)
 case atStart=>exact⟨0,_,by omega,rfl,HD⟩
 case round=>
  clear HD;obtain⟨k,s,hk,rfl,HD⟩:=hrel;by_cases hk1:k<g.acts.length
  ·have hkI:(k:Int)<(g.acts.length:Int):=by omega
   have hkd:decide (k<g.acts.length)=true:=decide_eq_true hk1;have hGr:=HG.out.new HD.out.nw;obtain⟨b,off,hab,q0,q1,q2⟩:=gP hGr.sa hk1;have hbw:b<wr.heap.size:=World.block_lt_of_cell? wr _ q0;have hil:s.items.length<=160:=by
    have h1:=lM HD.out.it;have h2:=HS.out.na;have h3:=HS.out.ne;have h4:=HS.out.ni;have h5:=HS.out.no;simp at h1;omega
   have e:aA=some ⟨b,off,none⟩:=HA.out.symm.trans hab;subst e;have HIT:Hid (∀y:SIt,y.bare=eE g.acts[k]->(s.items++[y]).map SIt.bare=[]++(g.acts.take (k+1)).map (eE)):=Lib.hid (fun y hy=>kj HD.out.it hk1 hy);clear hab hGr;have hxn:=(fD (HS.out.act k hk1).2).2.2;have hwt:=HW.out _ (List.getElem_mem hk1);have HXS:=fun W (n:New wr W)=>((HG.out.new HD.out.nw).ax _ (List.getElem_mem hk1)).new n
   generalize g.acts[k]=x at q0 q1 q2 hxn hwt HXS HIT;generalize hwd:lf x.tag=wd;have HWD:=Lib.hid hwd;clear hwd;go_wp2_with fail;have kb:New wr (wr.alloc (.cells #[.string x.name,.int .u8 x.tag,.slice x.a x.xs.length x.c] 63)):=(New.refl wr).alloc _;have hby:(wr.alloc (.cells #[.string x.name,.int .u8 x.tag,.slice x.a x.xs.length x.c] 63)).heap[wr.heap.size]? =some (.cells #[.string x.name,.int .u8 x.tag,.slice x.a x.xs.length x.c] 63 (0,0)):=heap_alloc_new wr _;generalize(wr.alloc (.cells #[.string x.name,.int .u8 x.tag,.slice x.a x.xs.length x.c] 63))=w1 at kb hby ⊢;generalize wr.heap.size=Y at hby ⊢;replace HD:=Lib.hid (HD.out.new kb);refine(ui x.tag hwt.1 hwt.2 w1).mono ?_;rintro e w2 ⟨rfl,k2⟩;rw[HWD.out];have HY:=Lib.hid (Keeps.heap k2 hby (fun h=>h));replace HD:=Lib.hid (HD.out.new k2);replace kb:=kb.trans k2;clear hby k2 hbw q0 q1 q2;go_wp2_with fail;obtain⟨-,p1,-,-,hPl⟩:=cR HD.out.sk.blkP;have hYl:Y<w2.heap.size:=(Array.getElem?_eq_some_iff.1 HY.out).1;have hdr:New w2 w2.drew:=(New.refl w2).drew;have HSn:∀V,New w2 V->(fun w':World=>w'.cell? ⟨P,1,none⟩=some (.slice s.ia s.items.length s.ic)∧P<w'.heap.size∧Y<w'.heap.size∧w'.cell? ⟨Y,0,none⟩=some (.string x.name)∧w'.cell? ⟨Y,2,none⟩=some (.slice x.a x.xs.length x.c)) V:=fun V kv=>⟨kv.cell p1,Nat.lt_of_lt_of_le hPl kv.size,Nat.lt_of_lt_of_le hYl kv.size,by rw[cell_of_block (Keeps.heap kv HY.out (fun h=>h)) 0];rfl,by rw[cell_of_block (Keeps.heap kv HY.out (fun h=>h)) 2];rfl⟩
   have hS0:=HSn _ hdr;clear p1 hPl hYl;refine aj (fun w':World=>w'.cell? ⟨P,1,none⟩=some (.slice s.ia s.items.length s.ic)∧P<w'.heap.size∧Y<w'.heap.size∧w'.cell? ⟨Y,0,none⟩=some (.string x.name)∧w'.cell? ⟨Y,2,none⟩=some (.slice x.a x.xs.length x.c)) [10,11,12] (by kernel_rfl) hS0 ?_;refine ae 0 hS0 ?_;refine ae 1 hS0 ?_;refine ae 2 hS0 ?_;refine ae 3 hS0 ?_;refine ae 4 hS0 ?_;refine ae 5 hS0 ?_;refine ae 6 hS0 ?_;refine ag 7 ?_;intro K hK;(try simp only[Act.put,sLs])
   go_simp;refine(iH w2.drew x.a x.c x.xs (HXS _ (kb.trans hdr)) (by omega)).mono ?_;rintro e V1 ⟨a9,c9,rfl,ho9,kc1⟩;have kd1:=hdr.trans kc1;have hS1:=HSn _ kd1;refine hK _ _ (fun _=>hS1) ?_;clear hK K;refine ae 8 hS1 ?_;refine ag 9 ?_;intro K hK;(try simp only[Act.put,sLs])
   go_simp;have kl:New V1 (V1.alloc (.cells #[.int .u8 1,.string x.name,.string wd.1,.slice a9 x.xs.length c9,.string ⟨#[]⟩,I 0,I 0,.string ⟨#[]⟩,I 0,I 0,I 0] 105)):=(New.refl V1).alloc _;have bi:ar (V1.alloc (.cells #[.int .u8 1,.string x.name,.string wd.1,.slice a9 x.xs.length c9,.string ⟨#[]⟩,I 0,I 0,.string ⟨#[]⟩,I 0,I 0,I 0] 105)) (some ⟨V1.heap.size,0,none⟩) (br (⟨1,x.name,wd.1,a9,c9,x.xs,⟨#[]⟩,0,0,⟨#[]⟩,0,0,0⟩:SIt)):=ar.lit V1 _ _;have kz:=kd1.trans kl;have hxo:bc (V1.alloc (.cells #[.int .u8 1,.string x.name,.string wd.1,.slice a9 x.xs.length c9,.string ⟨#[]⟩,I 0,I 0,.string ⟨#[]⟩,I 0,I 0,I 0] 105)) w.heap.size ((⟨1,x.name,wd.1,a9,c9,x.xs,⟨#[]⟩,0,0,⟨#[]⟩,0,0,0⟩:SIt)).a ((⟨1,x.name,wd.1,a9,c9,x.xs,⟨#[]⟩,0,0,⟨#[]⟩,0,0,0⟩:SIt)).c ((⟨1,x.name,wd.1,a9,c9,x.xs,⟨#[]⟩,0,0,⟨#[]⟩,0,0,0⟩:SIt)).xs:=ownsRow_le (ho9.new kl) (Nat.le_trans HD.out.nw.size hdr.size);have hxd:∀k,blk ((⟨1,x.name,wd.1,a9,c9,x.xs,⟨#[]⟩,0,0,⟨#[]⟩,0,0,0⟩:SIt)).a k->w2.heap.size<=k:=fun k hk=>Nat.le_trans hdr.size (ai ho9 hk).1
   refine hK _ _ (fun _=>HSn _ kz) ?_;clear hK K;generalize(V1.alloc (.cells #[.int .u8 1,.string x.name,.string wd.1,.slice a9 x.xs.length c9,.string ⟨#[]⟩,I 0,I 0,.string ⟨#[]⟩,I 0,I 0,I 0] 105))=VZ at kl bi kz hxo ⊢;generalize V1.heap.size=Z at bi ⊢;refine ag 10 ?_;intro K hK;refine cS rfl _ _ 50 rfl w.heap.size 105 it _ 11 136 Tryz.underlying50 hit hz0 hz1 hz2 rfl (by decide) s.ia s.items.length s.ic (s.items.flatMap br) rfl (HD.out.new kz).sk.own.io (some ⟨Z,0,none⟩) 1 1 (br (⟨1,x.name,wd.1,a9,c9,x.xs,⟨#[]⟩,0,0,⟨#[]⟩,0,0,0⟩:SIt)) rfl rfl bi (lu _) (by unfold maxLen;omega) (by omega) (Nat.le_trans HD.out.nw.size kz.size) ?_;intro ao' c' wc az hk' hmv;obtain⟨⟨hv0,hfz,lS⟩,hDn⟩:=HD.out.add (⟨1,x.name,wd.1,a9,c9,x.xs,⟨#[]⟩,0,0,⟨#[]⟩,0,0,0⟩:SIt) hxo hxd kz (HIT.out _ (by unfold eE;rw[HWD.out];rfl)) az hk';have HDn:=Lib.hid hDn;refine hK _ _ (fun hx=>by cases hx) ?_;clear hK K hDn az hk' hmv;refine ag 11 ?_;intro K hK;(try simp only[Act.put,sLs])
   go_simp;refine hK _ _ (fun hx=>by cases hx) ?_;clear hK K;refine ag 12 ?_;intro K hK;(try simp only[Act.put,sLs])
   go_simp;refine hK _ _ (fun hx=>by cases hx) ?_;clear hK K;refine av (by kernel_rfl) ?_;(try simp only[Act.put,sLs])
   clear hS0 HSn;(try simp only[Exit.then])
   go_wp2_with fail;go_roundw
   case rel=>exact⟨k+1,_,by omega,by go_num,HDn⟩
   case measure=>simp[intOf];omega
  ·have hke:k=g.acts.length:=by omega
   have hkd:decide (k<g.acts.length)=false:=decide_eq_false hk1;rw[hke,List.take_length] at HD;clear hke hk hk1;obtain⟨g0,g1,g2,g3,g4,hGl⟩:=an HD.out.hg;rw[HE.out] at g2;go_wp2_with fail;clear g0 g1 g2 g3 g4 hGl;have HD0:Hid (DrawAt w g P (([]++g.acts.map eE)++(g.edges.take 0).map (cT g)) s wr):=Lib.hid (by simpa using HD.out);replace HD:=HD0;clear HD0;go_loopw [56] (fun i wr=>∃(k:Nat) (s:Sk),k<=g.edges.length∧i= .int .i64 k∧Hid (DrawAt w g P (([]++g.acts.map eE)++(g.edges.take k).map (cT g)) s wr)) (fun i _=>g.edges.length-(intOf i).toNat)
   case atStart=>exact⟨0,_,by omega,rfl,HD⟩
   case round=>
    clear HD;obtain⟨k,s,hk,rfl,HD⟩:=hrel;by_cases hk1:k<g.edges.length
    ·have hkI:(k:Int)<(g.edges.length:Int):=by omega
     have hkd:decide (k<g.edges.length)=true:=decide_eq_true hk1;have hGr:=HG.out.new HD.out.nw;obtain⟨b,off,hab,q0,q1,q2,q3,q4⟩:=fH hGr.se hk1;have hbw:b<wr.heap.size:=World.block_lt_of_cell? wr _ q0;have hil:s.items.length<=160:=by
      have h1:=lM HD.out.it;have h2:=HS.out.na;have h3:=HS.out.ne;have h4:=HS.out.ni;have h5:=HS.out.no;simp at h1;omega
     have e:aE=some ⟨b,off,none⟩:=HE.out.symm.trans hab;subst e;have HIT:Hid (∀y:SIt,y.bare=cT g g.edges[k]->(s.items++[y]).map SIt.bare=([]++g.acts.map eE)++(g.edges.take (k+1)).map (cT g)):=Lib.hid (fun y hy=>kj HD.out.it hk1 hy);clear hab hGr;have hxn:=(HS.out.edge k hk1).2.2;have HXS:=fun W (n:New wr W)=>((HG.out.new HD.out.nw).ex _ (List.getElem_mem hk1)).new n
     obtain⟨xf,hxf,ef,-⟩:=fF (HS.out.edge k hk1).1;obtain⟨xt,hxt,et,-⟩:=fF (HS.out.edge k hk1).2.1;generalize g.edges[k]=x at q0 q1 q2 q3 q4 hxn HXS HIT ef et;obtain⟨f1,fp,t1,tp,xa,xc,xs⟩:=x;simp only at q0 q1 q2 q3 q4 hxn HXS ef et;subst ef et;go_wp2_with fail;have kb:New wr (wr.alloc (.cells #[I xf,I fp,I xt,I tp,.slice xa xs.length xc] 66)):=(New.refl wr).alloc _;have hby:(wr.alloc (.cells #[I xf,I fp,I xt,I tp,.slice xa xs.length xc] 66)).heap[wr.heap.size]? =some (.cells #[I xf,I fp,I xt,I tp,.slice xa xs.length xc] 66 (0,0)):=heap_alloc_new wr _;generalize(wr.alloc (.cells #[I xf,I fp,I xt,I tp,.slice xa xs.length xc] 66))=w1 at kb hby ⊢;generalize wr.heap.size=Y at hby ⊢;replace HD:=Lib.hid (HD.out.new kb);have HY:=Lib.hid hby;have kb0:=kb;clear hby kb hbw;have HCF:∀V (k:New w1 V),Calls Tryz.prog 69 #[I xf,I fp,.pointer (some ⟨w.heap.size,0,none⟩)] V fun e w'=>e= .returned (.agg #[.string g.acts[xf].name,I fp,I 0])∧New V w':=fun V k=>lN V w.heap.size g xf fp (Keeps.heap k HD.out.hg (fun h=>h)) (HG.out.new (HD.out.nw.trans k)) hxf hla
     have HNF:=Lib.hid (jb g hxf);generalize g.acts[xf].name=nF at HCF HNF;have HCT:∀V (k:New w1 V),Calls Tryz.prog 69 #[I xt,I tp,.pointer (some ⟨w.heap.size,0,none⟩)] V fun e w'=>e= .returned (.agg #[.string g.acts[xt].name,I tp,I 0])∧New V w':=fun V k=>lN V w.heap.size g xt tp (Keeps.heap k HD.out.hg (fun h=>h)) (HG.out.new (HD.out.nw.trans k)) hxt hla
     have HNT:=Lib.hid (jb g hxt);generalize g.acts[xt].name=nT at HCT HNT;have kb:Hid (∀V,New w1 V->ar V xa (Is xs)):=Lib.hid (fun V n=>HXS V (kb0.trans n));clear HXS kb0 q0 q1 q2 q3 q4;go_wp2_with fail;obtain⟨-,p1,-,-,hPl⟩:=cR HD.out.sk.blkP;have hYl:Y<w1.heap.size:=(Array.getElem?_eq_some_iff.1 HY.out).1;have hdr:New w1 w1.drew:=(New.refl w1).drew;have HSn:∀V,New w1 V->(fun w':World=>w'.cell? ⟨P,1,none⟩=some (.slice s.ia s.items.length s.ic)∧P<w'.heap.size∧Y<w'.heap.size∧w'.cell? ⟨Y,0,none⟩=some (I xf)∧w'.cell? ⟨Y,1,none⟩=some (I fp)∧w'.cell? ⟨Y,2,none⟩=some (I xt)∧w'.cell? ⟨Y,3,none⟩=some (I tp)∧w'.cell? ⟨Y,4,none⟩=some (.slice xa xs.length xc)) V:=fun V kv=>⟨kv.cell p1,Nat.lt_of_lt_of_le hPl kv.size,Nat.lt_of_lt_of_le hYl kv.size,by rw[cell_of_block (Keeps.heap kv HY.out (fun h=>h)) 0];rfl,by rw[cell_of_block (Keeps.heap kv HY.out (fun h=>h)) 1];rfl,by rw[cell_of_block (Keeps.heap kv HY.out (fun h=>h)) 2];rfl,by rw[cell_of_block (Keeps.heap kv HY.out (fun h=>h)) 3];rfl,by rw[cell_of_block (Keeps.heap kv HY.out (fun h=>h)) 4];rfl⟩
     have hS0:=HSn _ hdr;clear p1 hPl hYl;refine aj (fun w':World=>w'.cell? ⟨P,1,none⟩=some (.slice s.ia s.items.length s.ic)∧P<w'.heap.size∧Y<w'.heap.size∧w'.cell? ⟨Y,0,none⟩=some (I xf)∧w'.cell? ⟨Y,1,none⟩=some (I fp)∧w'.cell? ⟨Y,2,none⟩=some (I xt)∧w'.cell? ⟨Y,3,none⟩=some (I tp)∧w'.cell? ⟨Y,4,none⟩=some (.slice xa xs.length xc)) [19,20,21] (by kernel_rfl) hS0 ?_;refine ae 0 hS0 ?_;refine ae 1 hS0 ?_;refine ae 2 hS0 ?_;refine ae 3 hS0 ?_;refine ae 4 hS0 ?_;refine ae 5 hS0 ?_;refine ae 6 hS0 ?_;refine ae 8 hS0 ?_;refine ae 9 hS0 ?_;refine ae 10 hS0 ?_;refine ae 11 hS0 ?_;refine ae 12 hS0 ?_;refine ae 14 hS0 ?_;refine ae 15 hS0 ?_;refine ag 7 ?_;intro K hK;(try simp only[Act.put,sLs])
     go_simp;refine(HCF w1.drew hdr).mono ?_;rintro e V1 ⟨rfl,kc1⟩;have kd1:=hdr.trans kc1;have hS1:=HSn _ kd1;refine hK _ _ (fun _=>hS1) ?_;clear hK K;refine ag 13 ?_;intro K hK;(try simp only[Act.put,sLs])
     go_simp;refine(HCT V1 kd1).mono ?_;rintro e V2 ⟨rfl,kc2⟩;have kd2:=kd1.trans kc2;have hS2:=HSn _ kd2;refine hK _ _ (fun _=>hS2) ?_;clear hK K;refine ag 16 ?_;intro K hK;(try simp only[Act.put,sLs])
     go_simp;refine(iH V2 xa xc xs (kb.out _ kd2) (by omega)).mono ?_;rintro e V3 ⟨a9,c9,rfl,ho9,kc3⟩;have kd3:=kd2.trans kc3;have hS3:=HSn _ kd3;refine hK _ _ (fun _=>hS3) ?_;clear hK K;refine ae 17 hS3 ?_;refine ag 18 ?_;intro K hK;(try simp only[Act.put,sLs])
     go_simp;have kl:New V3 (V3.alloc (.cells #[.int .u8 2,.string ⟨#[]⟩,.string ⟨#[]⟩,.slice a9 xs.length c9,.string nF,I fp,I 0,.string nT,I tp,I 0,I 0] 105)):=(New.refl V3).alloc _;have bi:ar (V3.alloc (.cells #[.int .u8 2,.string ⟨#[]⟩,.string ⟨#[]⟩,.slice a9 xs.length c9,.string nF,I fp,I 0,.string nT,I tp,I 0,I 0] 105)) (some ⟨V3.heap.size,0,none⟩) (br (⟨2,⟨#[]⟩,⟨#[]⟩,a9,c9,xs,nF,fp,0,nT,tp,0,0⟩:SIt)):=ar.lit V3 _ _;have kz:=kd3.trans kl;have hxo:bc (V3.alloc (.cells #[.int .u8 2,.string ⟨#[]⟩,.string ⟨#[]⟩,.slice a9 xs.length c9,.string nF,I fp,I 0,.string nT,I tp,I 0,I 0] 105)) w.heap.size ((⟨2,⟨#[]⟩,⟨#[]⟩,a9,c9,xs,nF,fp,0,nT,tp,0,0⟩:SIt)).a ((⟨2,⟨#[]⟩,⟨#[]⟩,a9,c9,xs,nF,fp,0,nT,tp,0,0⟩:SIt)).c ((⟨2,⟨#[]⟩,⟨#[]⟩,a9,c9,xs,nF,fp,0,nT,tp,0,0⟩:SIt)).xs:=ownsRow_le (ho9.new kl) (Nat.le_trans HD.out.nw.size kd2.size);have hxd:∀k,blk ((⟨2,⟨#[]⟩,⟨#[]⟩,a9,c9,xs,nF,fp,0,nT,tp,0,0⟩:SIt)).a k->w1.heap.size<=k:=fun k hk=>Nat.le_trans kd2.size (ai ho9 hk).1
     refine hK _ _ (fun _=>HSn _ kz) ?_;clear hK K;generalize(V3.alloc (.cells #[.int .u8 2,.string ⟨#[]⟩,.string ⟨#[]⟩,.slice a9 xs.length c9,.string nF,I fp,I 0,.string nT,I tp,I 0,I 0] 105))=VZ at kl bi kz hxo ⊢;generalize V3.heap.size=Z at bi ⊢;refine ag 19 ?_;intro K hK;refine cS rfl _ _ 50 rfl w.heap.size 105 it _ 11 136 Tryz.underlying50 hit hz0 hz1 hz2 rfl (by decide) s.ia s.items.length s.ic (s.items.flatMap br) rfl (HD.out.new kz).sk.own.io (some ⟨Z,0,none⟩) 1 1 (br (⟨2,⟨#[]⟩,⟨#[]⟩,a9,c9,xs,nF,fp,0,nT,tp,0,0⟩:SIt)) rfl rfl bi (lu _) (by unfold maxLen;omega) (by omega) (Nat.le_trans HD.out.nw.size kz.size) ?_;intro ao' c' wc az hk' hmv;obtain⟨⟨hv0,hfz,lS⟩,hDn⟩:=HD.out.add (⟨2,⟨#[]⟩,⟨#[]⟩,a9,c9,xs,nF,fp,0,nT,tp,0,0⟩:SIt) hxo hxd kz (HIT.out _ (by unfold cT;simp only;rw[HNF.out,HNT.out];rfl)) az hk';have HDn:=Lib.hid hDn;refine hK _ _ (fun hx=>by cases hx) ?_;clear hK K hDn az hk' hmv;refine ag 20 ?_;intro K hK;(try simp only[Act.put,sLs])
     go_simp;refine hK _ _ (fun hx=>by cases hx) ?_;clear hK K;refine ag 21 ?_;intro K hK;(try simp only[Act.put,sLs])
     go_simp;refine hK _ _ (fun hx=>by cases hx) ?_;clear hK K;refine av (by kernel_rfl) ?_;(try simp only[Act.put,sLs])
     clear hS0 HSn;(try simp only[Exit.then])
     go_wp2_with fail;go_roundw
     case rel=>exact⟨k+1,_,by omega,by go_num,HDn⟩
     case measure=>simp[intOf];omega
    ·have hke:k=g.edges.length:=by omega
     have hkd:decide (k<g.edges.length)=false:=decide_eq_false hk1;rw[hke,List.take_length] at HD;clear hke hk hk1;obtain⟨g0,g1,g2,g3,g4,hGl⟩:=an HD.out.hg;rw[HI.out] at g3;go_wp2_with fail;clear g0 g1 g2 g3 g4 hGl;have HD0:Hid (DrawAt w g P ((([]++g.acts.map eE)++g.edges.map (cT g))++(g.ins.take 0).map (i6 g)) s wr):=Lib.hid (by simpa using HD.out);replace HD:=HD0;clear HD0;go_loopw [85] (fun i wr=>∃(k:Nat) (s:Sk),k<=g.ins.length∧i= .int .i64 k∧Hid (DrawAt w g P ((([]++g.acts.map eE)++g.edges.map (cT g))++(g.ins.take k).map (i6 g)) s wr)) (fun i _=>g.ins.length-(intOf i).toNat)
     case atStart=>exact⟨0,_,by omega,rfl,HD⟩
     case round=>
      clear HD;obtain⟨k,s,hk,rfl,HD⟩:=hrel;by_cases hk1:k<g.ins.length
      ·have hkI:(k:Int)<(g.ins.length:Int):=by omega
       have hkd:decide (k<g.ins.length)=true:=decide_eq_true hk1;have hGr:=HG.out.new HD.out.nw;obtain⟨b,off,hab,q0,q1,q2⟩:=ej hGr.si hk1;have hbw:b<wr.heap.size:=World.block_lt_of_cell? wr _ q0;have hil:s.items.length<=160:=by
        have h1:=lM HD.out.it;have h2:=HS.out.na;have h3:=HS.out.ne;have h4:=HS.out.ni;have h5:=HS.out.no;simp at h1;omega
       have e:aI=some ⟨b,off,none⟩:=HI.out.symm.trans hab;subst e;have HIT:Hid (∀y:SIt,y.bare=i6 g g.ins[k]->(s.items++[y]).map SIt.bare=(([]++g.acts.map eE)++g.edges.map (cT g))++(g.ins.take (k+1)).map (i6 g)):=Lib.hid (fun y hy=>kj HD.out.it hk1 hy);clear hab hGr;obtain⟨xp,hxp,ep,-⟩:=fF (HS.out.inp k hk1).2;generalize g.ins[k]=x at q0 q1 q2 HIT ep;obtain⟨xn,x1,po⟩:=x;simp only at q0 q1 q2 ep;subst ep;go_wp2_with fail;have kb:New wr (wr.alloc (.cells #[.string xn,I xp,I po] 82)):=(New.refl wr).alloc _;have hby:(wr.alloc (.cells #[.string xn,I xp,I po] 82)).heap[wr.heap.size]? =some (.cells #[.string xn,I xp,I po] 82 (0,0)):=heap_alloc_new wr _;generalize(wr.alloc (.cells #[.string xn,I xp,I po] 82))=w1 at kb hby ⊢;generalize wr.heap.size=Y at hby ⊢;replace HD:=Lib.hid (HD.out.new kb);have HY:=Lib.hid hby;clear hby kb hbw;have HCF:∀V (k:New w1 V),Calls Tryz.prog 69 #[I xp,I po,.pointer (some ⟨w.heap.size,0,none⟩)] V fun e w'=>e= .returned (.agg #[.string g.acts[xp].name,I po,I 0])∧New V w':=fun V k=>lN V w.heap.size g xp po (Keeps.heap k HD.out.hg (fun h=>h)) (HG.out.new (HD.out.nw.trans k)) hxp hla
       have HNF:=Lib.hid (jb g hxp);generalize g.acts[xp].name=nF at HCF HNF;clear q0 q1 q2;go_wp2_with fail;obtain⟨-,p1,-,-,hPl⟩:=cR HD.out.sk.blkP;have hYl:Y<w1.heap.size:=(Array.getElem?_eq_some_iff.1 HY.out).1;have hdr:New w1 w1.drew:=(New.refl w1).drew;have HSn:∀V,New w1 V->(fun w':World=>w'.cell? ⟨P,1,none⟩=some (.slice s.ia s.items.length s.ic)∧P<w'.heap.size∧Y<w'.heap.size∧w'.cell? ⟨Y,0,none⟩=some (.string xn)∧w'.cell? ⟨Y,1,none⟩=some (I xp)∧w'.cell? ⟨Y,2,none⟩=some (I po)) V:=fun V kv=>⟨kv.cell p1,Nat.lt_of_lt_of_le hPl kv.size,Nat.lt_of_lt_of_le hYl kv.size,by rw[cell_of_block (Keeps.heap kv HY.out (fun h=>h)) 0];rfl,by rw[cell_of_block (Keeps.heap kv HY.out (fun h=>h)) 1];rfl,by rw[cell_of_block (Keeps.heap kv HY.out (fun h=>h)) 2];rfl⟩
       have hS0:=HSn _ hdr;clear p1 hPl hYl;refine aj (fun w':World=>w'.cell? ⟨P,1,none⟩=some (.slice s.ia s.items.length s.ic)∧P<w'.heap.size∧Y<w'.heap.size∧w'.cell? ⟨Y,0,none⟩=some (.string xn)∧w'.cell? ⟨Y,1,none⟩=some (I xp)∧w'.cell? ⟨Y,2,none⟩=some (I po)) [12,13,14] (by kernel_rfl) hS0 ?_;refine ae 0 hS0 ?_;refine ae 1 hS0 ?_;refine ae 2 hS0 ?_;refine ae 3 hS0 ?_;refine ae 4 hS0 ?_;refine ae 5 hS0 ?_;refine ae 6 hS0 ?_;refine ae 7 hS0 ?_;refine ae 8 hS0 ?_;refine ag 9 ?_;intro K hK;(try simp only[Act.put,sLs])
       go_simp;refine(HCF w1.drew hdr).mono ?_;rintro e V1 ⟨rfl,kc1⟩;have kd1:=hdr.trans kc1;have hS1:=HSn _ kd1;refine hK _ _ (fun _=>hS1) ?_;clear hK K;refine ae 10 hS1 ?_;refine ag 11 ?_;intro K hK;(try simp only[Act.put,sLs])
       go_simp;have kl:New V1 (V1.alloc (.cells #[.int .u8 3,.string xn,.string ⟨#[]⟩,.slice none 0 0,.string ⟨#[]⟩,I 0,I 0,.string nF,I po,I 0,I 0] 105)):=(New.refl V1).alloc _;have bi:ar (V1.alloc (.cells #[.int .u8 3,.string xn,.string ⟨#[]⟩,.slice none 0 0,.string ⟨#[]⟩,I 0,I 0,.string nF,I po,I 0,I 0] 105)) (some ⟨V1.heap.size,0,none⟩) (br (⟨3,xn,⟨#[]⟩,none,0,[],⟨#[]⟩,0,0,nF,po,0,0⟩:SIt)):=ar.lit V1 _ _;have kz:=kd1.trans kl;have hxo:bc (V1.alloc (.cells #[.int .u8 3,.string xn,.string ⟨#[]⟩,.slice none 0 0,.string ⟨#[]⟩,I 0,I 0,.string nF,I po,I 0,I 0] 105)) w.heap.size ((⟨3,xn,⟨#[]⟩,none,0,[],⟨#[]⟩,0,0,nF,po,0,0⟩:SIt)).a ((⟨3,xn,⟨#[]⟩,none,0,[],⟨#[]⟩,0,0,nF,po,0,0⟩:SIt)).c ((⟨3,xn,⟨#[]⟩,none,0,[],⟨#[]⟩,0,0,nF,po,0,0⟩:SIt)).xs:=bc.nil _ _;have hxd:∀k,blk ((⟨3,xn,⟨#[]⟩,none,0,[],⟨#[]⟩,0,0,nF,po,0,0⟩:SIt)).a k->w1.heap.size<=k:=fun k hk=>by obtain⟨y,hy,_⟩:=hk;cases hy
       refine hK _ _ (fun _=>HSn _ kz) ?_;clear hK K;generalize(V1.alloc (.cells #[.int .u8 3,.string xn,.string ⟨#[]⟩,.slice none 0 0,.string ⟨#[]⟩,I 0,I 0,.string nF,I po,I 0,I 0] 105))=VZ at kl bi kz hxo ⊢;generalize V1.heap.size=Z at bi ⊢;refine ag 12 ?_;intro K hK;refine cS rfl _ _ 50 rfl w.heap.size 105 it _ 11 136 Tryz.underlying50 hit hz0 hz1 hz2 rfl (by decide) s.ia s.items.length s.ic (s.items.flatMap br) rfl (HD.out.new kz).sk.own.io (some ⟨Z,0,none⟩) 1 1 (br (⟨3,xn,⟨#[]⟩,none,0,[],⟨#[]⟩,0,0,nF,po,0,0⟩:SIt)) rfl rfl bi (lu _) (by unfold maxLen;omega) (by omega) (Nat.le_trans HD.out.nw.size kz.size) ?_;intro ao' c' wc az hk' hmv;obtain⟨⟨hv0,hfz,lS⟩,hDn⟩:=HD.out.add (⟨3,xn,⟨#[]⟩,none,0,[],⟨#[]⟩,0,0,nF,po,0,0⟩:SIt) hxo hxd kz (HIT.out _ (by unfold i6;simp only;rw[HNF.out];rfl)) az hk';have HDn:=Lib.hid hDn;refine hK _ _ (fun hx=>by cases hx) ?_;clear hK K hDn az hk' hmv;refine ag 13 ?_;intro K hK;(try simp only[Act.put,sLs])
       go_simp;refine hK _ _ (fun hx=>by cases hx) ?_;clear hK K;refine ag 14 ?_;intro K hK;(try simp only[Act.put,sLs])
       go_simp;refine hK _ _ (fun hx=>by cases hx) ?_;clear hK K;refine av (by kernel_rfl) ?_;(try simp only[Act.put,sLs])
       clear hS0 HSn;(try simp only[Exit.then])
       go_wp2_with fail;go_roundw
       case rel=>exact⟨k+1,_,by omega,by go_num,HDn⟩
       case measure=>simp[intOf];omega
      ·have hke:k=g.ins.length:=by omega
       have hkd:decide (k<g.ins.length)=false:=decide_eq_false hk1;rw[hke,List.take_length] at HD;clear hke hk hk1;obtain⟨g0,g1,g2,g3,g4,hGl⟩:=an HD.out.hg;rw[HO.out] at g4;go_wp2_with fail;clear g0 g1 g2 g3 g4 hGl;have HD0:Hid (DrawAt w g P (((([]++g.acts.map eE)++g.edges.map (cT g))++g.ins.map (i6 g))++(g.outs.take 0).map (gA g)) s wr):=Lib.hid (by simpa using HD.out);replace HD:=HD0;clear HD0;go_loopw [107] (fun i wr=>∃(k:Nat) (s:Sk),k<=g.outs.length∧i= .int .i64 k∧Hid (DrawAt w g P (((([]++g.acts.map eE)++g.edges.map (cT g))++g.ins.map (i6 g))++(g.outs.take k).map (gA g)) s wr)) (fun i _=>g.outs.length-(intOf i).toNat)
       case atStart=>exact⟨0,_,by omega,rfl,HD⟩
       case round=>
        clear HD;obtain⟨k,s,hk,rfl,HD⟩:=hrel;by_cases hk1:k<g.outs.length
        ·have hkI:(k:Int)<(g.outs.length:Int):=by omega
         have hkd:decide (k<g.outs.length)=true:=decide_eq_true hk1;have hGr:=HG.out.new HD.out.nw;obtain⟨b,off,hab,q0,q1,q2⟩:=ej hGr.so hk1;have hbw:b<wr.heap.size:=World.block_lt_of_cell? wr _ q0;have hil:s.items.length<=160:=by
          have h1:=lM HD.out.it;have h2:=HS.out.na;have h3:=HS.out.ne;have h4:=HS.out.ni;have h5:=HS.out.no;simp at h1;omega
         have e:aO=some ⟨b,off,none⟩:=HO.out.symm.trans hab;subst e;have HIT:Hid (∀y:SIt,y.bare=gA g g.outs[k]->(s.items++[y]).map SIt.bare=((([]++g.acts.map eE)++g.edges.map (cT g))++g.ins.map (i6 g))++(g.outs.take (k+1)).map (gA g)):=Lib.hid (fun y hy=>kj HD.out.it hk1 hy);clear hab hGr;obtain⟨xp,hxp,ep,-⟩:=fF (HS.out.out k hk1).2;generalize g.outs[k]=x at q0 q1 q2 HIT ep;obtain⟨xn,x1,po⟩:=x;simp only at q0 q1 q2 ep;subst ep;go_wp2_with fail;have kb:New wr (wr.alloc (.cells #[.string xn,I xp,I po] 82)):=(New.refl wr).alloc _;have hby:(wr.alloc (.cells #[.string xn,I xp,I po] 82)).heap[wr.heap.size]? =some (.cells #[.string xn,I xp,I po] 82 (0,0)):=heap_alloc_new wr _;generalize(wr.alloc (.cells #[.string xn,I xp,I po] 82))=w1 at kb hby ⊢;generalize wr.heap.size=Y at hby ⊢;replace HD:=Lib.hid (HD.out.new kb);have HY:=Lib.hid hby;clear hby kb hbw;have HCF:∀V (k:New w1 V),Calls Tryz.prog 69 #[I xp,I po,.pointer (some ⟨w.heap.size,0,none⟩)] V fun e w'=>e= .returned (.agg #[.string g.acts[xp].name,I po,I 0])∧New V w':=fun V k=>lN V w.heap.size g xp po (Keeps.heap k HD.out.hg (fun h=>h)) (HG.out.new (HD.out.nw.trans k)) hxp hla
         have HNF:=Lib.hid (jb g hxp);generalize g.acts[xp].name=nF at HCF HNF;clear q0 q1 q2;go_wp2_with fail;obtain⟨-,p1,-,-,hPl⟩:=cR HD.out.sk.blkP;have hYl:Y<w1.heap.size:=(Array.getElem?_eq_some_iff.1 HY.out).1;have hdr:New w1 w1.drew:=(New.refl w1).drew;have HSn:∀V,New w1 V->(fun w':World=>w'.cell? ⟨P,1,none⟩=some (.slice s.ia s.items.length s.ic)∧P<w'.heap.size∧Y<w'.heap.size∧w'.cell? ⟨Y,0,none⟩=some (.string xn)∧w'.cell? ⟨Y,1,none⟩=some (I xp)∧w'.cell? ⟨Y,2,none⟩=some (I po)) V:=fun V kv=>⟨kv.cell p1,Nat.lt_of_lt_of_le hPl kv.size,Nat.lt_of_lt_of_le hYl kv.size,by rw[cell_of_block (Keeps.heap kv HY.out (fun h=>h)) 0];rfl,by rw[cell_of_block (Keeps.heap kv HY.out (fun h=>h)) 1];rfl,by rw[cell_of_block (Keeps.heap kv HY.out (fun h=>h)) 2];rfl⟩
         have hS0:=HSn _ hdr;clear p1 hPl hYl;refine aj (fun w':World=>w'.cell? ⟨P,1,none⟩=some (.slice s.ia s.items.length s.ic)∧P<w'.heap.size∧Y<w'.heap.size∧w'.cell? ⟨Y,0,none⟩=some (.string xn)∧w'.cell? ⟨Y,1,none⟩=some (I xp)∧w'.cell? ⟨Y,2,none⟩=some (I po)) [12,13,14] (by kernel_rfl) hS0 ?_;refine ae 0 hS0 ?_;refine ae 1 hS0 ?_;refine ae 2 hS0 ?_;refine ae 3 hS0 ?_;refine ae 4 hS0 ?_;refine ae 5 hS0 ?_;refine ae 6 hS0 ?_;refine ae 7 hS0 ?_;refine ae 8 hS0 ?_;refine ag 9 ?_;intro K hK;(try simp only[Act.put,sLs])
         go_simp;refine(HCF w1.drew hdr).mono ?_;rintro e V1 ⟨rfl,kc1⟩;have kd1:=hdr.trans kc1;have hS1:=HSn _ kd1;refine hK _ _ (fun _=>hS1) ?_;clear hK K;refine ae 10 hS1 ?_;refine ag 11 ?_;intro K hK;(try simp only[Act.put,sLs])
         go_simp;have kl:New V1 (V1.alloc (.cells #[.int .u8 4,.string xn,.string ⟨#[]⟩,.slice none 0 0,.string nF,I po,I 0,.string ⟨#[]⟩,I 0,I 0,I 0] 105)):=(New.refl V1).alloc _;have bi:ar (V1.alloc (.cells #[.int .u8 4,.string xn,.string ⟨#[]⟩,.slice none 0 0,.string nF,I po,I 0,.string ⟨#[]⟩,I 0,I 0,I 0] 105)) (some ⟨V1.heap.size,0,none⟩) (br (⟨4,xn,⟨#[]⟩,none,0,[],nF,po,0,⟨#[]⟩,0,0,0⟩:SIt)):=ar.lit V1 _ _;have kz:=kd1.trans kl;have hxo:bc (V1.alloc (.cells #[.int .u8 4,.string xn,.string ⟨#[]⟩,.slice none 0 0,.string nF,I po,I 0,.string ⟨#[]⟩,I 0,I 0,I 0] 105)) w.heap.size ((⟨4,xn,⟨#[]⟩,none,0,[],nF,po,0,⟨#[]⟩,0,0,0⟩:SIt)).a ((⟨4,xn,⟨#[]⟩,none,0,[],nF,po,0,⟨#[]⟩,0,0,0⟩:SIt)).c ((⟨4,xn,⟨#[]⟩,none,0,[],nF,po,0,⟨#[]⟩,0,0,0⟩:SIt)).xs:=bc.nil _ _;have hxd:∀k,blk ((⟨4,xn,⟨#[]⟩,none,0,[],nF,po,0,⟨#[]⟩,0,0,0⟩:SIt)).a k->w1.heap.size<=k:=fun k hk=>by obtain⟨y,hy,_⟩:=hk;cases hy
         refine hK _ _ (fun _=>HSn _ kz) ?_;clear hK K;generalize(V1.alloc (.cells #[.int .u8 4,.string xn,.string ⟨#[]⟩,.slice none 0 0,.string nF,I po,I 0,.string ⟨#[]⟩,I 0,I 0,I 0] 105))=VZ at kl bi kz hxo ⊢;generalize V1.heap.size=Z at bi ⊢;refine ag 12 ?_;intro K hK;refine cS rfl _ _ 50 rfl w.heap.size 105 it _ 11 136 Tryz.underlying50 hit hz0 hz1 hz2 rfl (by decide) s.ia s.items.length s.ic (s.items.flatMap br) rfl (HD.out.new kz).sk.own.io (some ⟨Z,0,none⟩) 1 1 (br (⟨4,xn,⟨#[]⟩,none,0,[],nF,po,0,⟨#[]⟩,0,0,0⟩:SIt)) rfl rfl bi (lu _) (by unfold maxLen;omega) (by omega) (Nat.le_trans HD.out.nw.size kz.size) ?_;intro ao' c' wc az hk' hmv;obtain⟨⟨hv0,hfz,lS⟩,hDn⟩:=HD.out.add (⟨4,xn,⟨#[]⟩,none,0,[],nF,po,0,⟨#[]⟩,0,0,0⟩:SIt) hxo hxd kz (HIT.out _ (by unfold gA;simp only;rw[HNF.out];rfl)) az hk';have HDn:=Lib.hid hDn;refine hK _ _ (fun hx=>by cases hx) ?_;clear hK K hDn az hk' hmv;refine ag 13 ?_;intro K hK;(try simp only[Act.put,sLs])
         go_simp;refine hK _ _ (fun hx=>by cases hx) ?_;clear hK K;refine ag 14 ?_;intro K hK;(try simp only[Act.put,sLs])
         go_simp;refine hK _ _ (fun hx=>by cases hx) ?_;clear hK K;refine av (by kernel_rfl) ?_;(try simp only[Act.put,sLs])
         clear hS0 HSn;(try simp only[Exit.then])
         go_wp2_with fail;go_roundw
         case rel=>exact⟨k+1,_,by omega,by go_num,HDn⟩
         case measure=>simp[intOf];omega
        ·have hke:k=g.outs.length:=by omega
         have hkd:decide (k<g.outs.length)=false:=decide_eq_false hk1;rw[hke,List.take_length] at HD;clear hke hk hk1;obtain⟨p0,p1,-,-,hPl⟩:=cR HD.out.sk.blkP;obtain⟨r0,r1,f0,f1,hBB⟩:=cR HD.out.hr;have iU:Hid (∀u v:Value,post (.returned (.tuple #[.agg #[.string s.name,.slice s.ia s.items.length s.ic],I 0])) ((wr.setCell ⟨w.heap.size+1,0,none⟩ u).setCell ⟨w.heap.size+1,1,none⟩ v)):=Lib.hid (fun u v=>by
          rw[<-HP.out];exact⟨s,rfl,HD.out.sk.own.spot HD.out.hr u v,by unfold Sk.bare fs dZ;rw[HD.out.nm,HD.out.it];simp,(HD.out.nw.setCell (by simp) _).setCell (by simp) _⟩)
         clear HD HP;go_wp2_with fail;exact bodyPost_ret (v:= .tuple #[.agg #[.string s.name,.slice s.ia s.items.length s.ic],I 0]) (by simp[results,Tryz.results40,go_sem,r0,r1,f0,f1,hBB]) rfl (iU.out _ _)
def GAct.bare (x:GAct):GAct:= { x with a:=none,c:=0 }
def GEdge.bare (x:GEdge):GEdge:= { x with a:=none,c:=0 }
def Gr.bare (g:Gr):Gr:=⟨g.name,none,0,g.acts.map GAct.bare,none,0,g.edges.map GEdge.bare,none,0,g.ins,none,0,g.outs⟩
theorem lk {α β:Type} {E:Nat->β->Int×Int} {f:α->β} :∀(l:List α) (i:Nat),aD E i (l.map f)=aD (fun i x=>E i (f x)) i l:=by
 intro l;induction l with
 |nil=>intro i;rfl
 |cons x r ih=>
  intro i;rw[List.map_cons];unfold aD;rw[ih]
theorem lw (g:Gr) (e o:Nat) (a p:Int):aZ g.bare e o a p=aZ g e o a p:=by
 unfold aZ Gr.bare;simp only[<-List.map_take,List.any_map];rfl
theorem mC (g:Gr) (e o:Nat) (a p:Int):bZ g.bare e o a p=bZ g e o a p:=by
 unfold bZ Gr.bare;simp only[<-List.map_take,List.any_map];rfl
theorem jy (g:Gr) (a i o:Nat):aw g.bare a i o=aw g a i o:=by
 unfold aw Gr.bare;simp only[<-List.map_take,List.map_map];rfl
theorem sd (x:GAct):nIn x.bare=nIn x:=rfl
theorem pO (x:GAct):cr x.bare=cr x:=rfl
theorem ku (g:Gr) (n:GAct->Nat) (hn:∀x:GAct,n x.bare=n x) (tk:Bool) (a p:Int):dp g.bare n tk a p=dp g n tk a p:=by
 unfold dp;have hl:g.bare.acts.length=g.acts.length:=by simp[Gr.bare]
 by_cases h:0<=a∧a<g.acts.length
 ·rw[dif_pos h,dif_pos (by rw[hl];exact h)];have:n (g.bare.acts[a.toNat]'(by rw[hl];omega))=n (g.acts[a.toNat]'(by omega)):=by
   simp only[Gr.bare,List.getElem_map];exact hn _
  rw[this]
 ·rw[dif_neg h,dif_neg (by rw[hl];exact h)]
theorem js (g:Gr):bz g.bare=bz g:=by
 have h1:(fun i x=>fo g.bare i (GAct.bare x))=fo g:=by
  funext i x;unfold fo;rw[jy];rfl
 have h2:(fun i x=>dd g.bare i (GEdge.bare x))=dd g:=by
  funext i x;unfold dd;simp only[lw,mC,ku _ _ pO,ku _ _ sd];rfl
 have hla:g.bare.acts.length=g.acts.length:=by simp[Gr.bare]
 have hle:g.bare.edges.length=g.edges.length:=by simp[Gr.bare]
 have h3:inE g.bare=inE g:=by
  funext i x;unfold inE;simp only[jy,mC,ku _ _ sd,hla,hle]
 have h4:fu g.bare=fu g:=by
  funext i x;unfold fu;simp only[jy,lw,ku _ _ pO,hla,hle];rfl
 have h5:(fun i x=>((if e8 g.bare i (GAct.bare x) then 87 else 0:Int),(0:Int)))=(fun i x=>(if e8 g i x then 87 else 0,0)):=by
  funext i x;unfold e8;simp only[mC,lw,hle];rfl
 unfold bz;rw[hla,hle];show(if aQ g.name=false then _ else _)=_
 have ha:g.bare.acts=g.acts.map GAct.bare:=rfl;have he:g.bare.edges=g.edges.map GEdge.bare:=rfl;rw[ha,he,lk,lk,lk,h1,h2,h3,h4];have h5':(fun i x=>(fun i x=>((if e8 g.bare i x then 87 else 0:Int),(0:Int))) i (GAct.bare x))=(fun i x=>(if e8 g i x then 87 else 0,0)):=h5;rw[h5'];rfl
theorem tf {g h:Gr} (e:g.bare=h.bare):bz g=bz h:=by rw[<-js g,e,js]
def ofK (k:Int) (l:List SIt):List SIt:=l.filter (fun x=>decide (x.kind=k))
def cv (l:List SIt) (s:ByteArray):Int:=match(ofK 1 l).findIdx? (fun x=>decide (x.name=s)) with
 |some i=>(i:Int)+1
 |none=>0
theorem eh (k:Int) (l:List SIt) (x:SIt):ofK k (l++[x])=if x.kind=k then ofK k l++[x] else ofK k l:=by
 unfold ofK;rw[List.filter_append];by_cases h:x.kind=k<;>simp[h]
theorem kE (k:Int) (l:List SIt):(ofK k l).length<=l.length:=List.length_filter_le _ _
theorem tR {l:List SIt} {x:SIt} (h:x.kind≠1) (s:ByteArray):cv (l++[x]) s=cv l s:=by
 unfold cv;rw[eh,if_neg h]
theorem yZ {l:List SIt} {x:SIt} (h:x.kind=1) (s:ByteArray):cv (l++[x]) s=if cv l s=0∧s=x.name then((ofK 1 l).length:Int)+1 else cv l s:=by
 unfold cv;rw[eh,if_pos h,List.findIdx?_append];cases hf:(ofK 1 l).findIdx? (fun y=>decide (y.name=s)) with
 |some i=>
  have:¬((i:Int)+1=0):=by omega
  simp[this]
 |none=>
  by_cases e:s=x.name
  ·subst e;simp
  ·have:¬x.name=s:=fun h=>e h.symm
   simp[e,this]
theorem qO (l:List SIt) (s:ByteArray):0<=cv l s∧cv l s<=l.length:=by
 unfold cv;cases h:(ofK 1 l).findIdx? (fun x=>decide (x.name=s)) with
 |none=>simp
 |some i=>
  have h1:=(List.findIdx?_eq_some_iff_getElem.1 h).1;have h2:=kE 1 l;simp only;omega
def oC (x:SIt):GAct:=⟨x.name,(rc x.tag).1,none,0,x.xs⟩
def ll (V:ByteArray->Int) (x:SIt):GEdge:=⟨V x.fn-1,x.fp,V x.tn-1,x.tp,none,0,x.xs⟩
def v6 (V:ByteArray->Int) (x:SIt):GPort:=⟨x.name,V x.tn-1,x.tp⟩
def pF (V:ByteArray->Int) (x:SIt):GPort:=⟨x.name,V x.fn-1,x.fp⟩
def bv (name:ByteArray) (V:ByteArray->Int) (l:List SIt):Gr:=
 ⟨name,none,0,(ofK 1 l).map oC,none,0,(ofK 2 l).map (ll V),none,0,(ofK 3 l).map (v6 V),none,0,(ofK 4 l).map (pF V)⟩
def aX (s:Sk):Gr:=bv s.name (cv s.items) s.items
def fj (l:List SIt) (kd i d:Int):Int:=match(ofK kd l)[i.toNat]? with
 |some x=>if d=1 then x.fa else if d=2 then x.ta else x.at_
 |none=>0
def gZ (x:SIt):Bool:=decide (x.kind<1∨4<x.kind)
def cx (s:Sk):Int×Int:=match s.items.find? gZ with
 |some x=>(1,x.at_)
 |none=>if(bz (aX s)).1=0 then(0,0) else((bz (aX s)).1,fj s.items (bz (aX s)).2.1 (bz (aX s)).2.2.1 (bz (aX s)).2.2.2)
structure GrOwn (w:World) (B:Nat) (q:Gr):Prop where
 ao:w.ownsRow B 63 3 (.slice q.aa q.acts.length q.ac) q.acts.length (q.acts.flatMap ct)
 eo:w.ownsRow B 66 5 (.slice q.ea q.edges.length q.ec) q.edges.length (q.edges.flatMap bS)
 io:w.ownsRow B 82 3 (.slice q.ia q.ins.length q.ic) q.ins.length (q.ins.flatMap aH)
 oo:w.ownsRow B 82 3 (.slice q.oa q.outs.length q.oc) q.outs.length (q.outs.flatMap aH)
 ax:∀x∈q.acts,bc w B x.a x.c x.xs
 ex:∀x∈q.edges,bc w B x.a x.c x.xs
 ap:(q.acts.map (·.a)++q.edges.map (·.a)).Pairwise (fun a b=>∀k,blk a k->¬blk b k)
 po:∀k,blk q.ia k->¬blk q.oa k
theorem GrOwn.at {w:World} {B:Nat} {q:Gr} (h:GrOwn w B q):GrAt w q:=
 ⟨ar.of_owns h.ao,ar.of_owns h.eo,ar.of_owns h.io,ar.of_owns h.oo,fun x hx=>(h.ax x hx).sl,fun x hx=>(h.ex x hx).sl⟩
theorem GrOwn.new {w w':World} {B:Nat} {q:Gr} (h:GrOwn w B q) (k:New w w'):GrOwn w' B q:=
 ⟨k.owns h.ao,k.owns h.eo,k.owns h.io,k.owns h.oo,fun x hx=>(h.ax x hx).new k,fun x hx=>(h.ex x hx).new k,h.ap,h.po⟩
theorem GrOwn.other {S:Nat->Prop} {w w':World} {B:Nat} {q:Gr} (h:GrOwn w B q) (k:Keeps S w w')
  (hS:∀g,S g->(∃es c,w.heap[g]? =some (.map es c))∨∃cur t fr,w.heap[g]? =some (.cells cur t fr)∧t≠63∧t≠66∧t≠82∧t≠3):GrOwn w' B q:=by
 have f:∀ {e size n:Nat} {v:Value} {xs:List Value},w.ownsRow B e size v n xs->(∀t:TypeId,t≠63∧t≠66∧t≠82∧t≠3->t≠e)->w'.ownsRow B e size v n xs:=fun hv he=>k.owns hv (fun g hg hs=>by
  obtain⟨c1,h1⟩:=aL hv hg;rcases hS g hs with⟨es,c,h2⟩|⟨cur,t,fr,h2,hne⟩
  ·rw[h1] at h2;cases h2
  ·rw[h1] at h2;cases h2;exact he _ hne rfl)
 exact⟨f h.ao (fun t ht=>ht.1),f h.eo (fun t ht=>ht.2.1),f h.io (fun t ht=>ht.2.2.1),f h.oo (fun t ht=>ht.2.2.1),fun x hx=>f (h.ax x hx) (fun t ht=>ht.2.2.2),fun x hx=>f (h.ex x hx) (fun t ht=>ht.2.2.2),h.ap,h.po⟩
structure GrB (w:World) (B P:Nat) (q:Gr):Prop where
 blkP:w.heap[P]? =some (.cells q.cs 26 (0,0))
 own:GrOwn w B q
theorem GrB.new {w w':World} {B P:Nat} {q:Gr} (h:GrB w B P q) (k:New w w'):GrB w' B P q:=⟨Keeps.heap k h.blkP (fun h=>h),h.own.new k⟩
theorem GrB.other {S:Nat->Prop} {w w':World} {B P:Nat} {q:Gr} (h:GrB w B P q) (k:Keeps S w w') (hP:¬S P)
  (hS:∀g,S g->(∃es c,w.heap[g]? =some (.map es c))∨∃cur t fr,w.heap[g]? =some (.cells cur t fr)∧t≠63∧t≠66∧t≠82∧t≠3):GrB w' B P q:=⟨k.heap h.blkP hP,h.own.other k hS⟩
theorem GrB.addAct {w1 w2 w3:World} {B P:Nat} {q:Gr} (h:GrB w1 B P q) (x:GAct) (hx:bc w2 B x.a x.c x.xs) (hd:∀k,blk x.a k->w1.heap.size<=k) (k12:New w1 w2)
  {a':Option Addr} {c':Nat} (ho:w3.ownsRow B 63 3 (.slice a' (q.acts.length+1) c') (q.acts.length+1) (q.acts.flatMap ct++ct x)) (hk:Keeps (blk q.aa) w2 w3) (hm:dS w2 q.aa a'):
  (w3.cell? ⟨P,1,none⟩=some (.slice q.aa q.acts.length q.ac)∧w3.frozen? ⟨P,1,none⟩=false∧P<w3.heap.size)∧
  GrB (w3.setCell ⟨P,1,none⟩ (.slice a' (q.acts.length+1) c')) B P { q with aa:=a',ac:=c',acts:=q.acts++[x] } ∧Keeps (fun k=>k=P∨blk q.aa k) w1 (w3.setCell ⟨P,1,none⟩ (.slice a' (q.acts.length+1) c')):=by
 have h2:=h.new k12;have cw:∀g,blk q.aa g->∃cur,w2.heap[g]? =some (.cells cur 63 (0,0)):=fun g hg=>aL h2.own.ao (aV hg)
 have hto:∀e:TypeId,63≠e->∀g,blk q.aa g->∃cur t fr,w2.heap[g]? =some (.cells cur t fr)∧t≠e:=fun e he g hg=>by
  obtain⟨cur,hc⟩:=cw g hg;exact⟨cur,_,_,hc,he⟩
 have hP3:=hk.heap h2.blkP (fun hb=>by obtain⟨cur,hc⟩:=cw _ hb;rw[h2.blkP] at hc;simp at hc);have hP4:=block_setCell (i:=1) hP3 (.slice a' (q.acts.length+1) c');have hks:Keeps (fun k=>k=P) w3 (w3.setCell ⟨P,1,none⟩ (.slice a' (q.acts.length+1) c')):=Keeps.setCell w3 _ _ rfl;have htP:∀e:TypeId,26≠e->∀g,g=P->∃cur t fr,w3.heap[g]? =some (.cells cur t fr)∧t≠e:=fun e he g hg=>⟨_,_,_,hg▸hP3,he⟩
 have hmv:∀k,blk a' k->blk q.aa k∨w2.heap.size<=k:=fun k hb=>cX hm hb
 have tB:=k12.size;refine⟨⟨?_,unfrozen_of_block hP3 1,(Array.getElem?_eq_some_iff.1 hP3).1⟩,⟨?_,?_,?_,?_,?_,?_,?_,?_,?_⟩,?_⟩
 ·rw[cell_of_block hP3 1];rfl
 ·rw[hP4];simp
 ·have:=al ho hks (htP _ (by decide));simpa using this
 ·exact al (al h2.own.eo hk (hto _ (by decide))) hks (htP _ (by decide))
 ·exact al (al h2.own.io hk (hto _ (by decide))) hks (htP _ (by decide))
 ·exact al (al h2.own.oo hk (hto _ (by decide))) hks (htP _ (by decide))
 ·intro y hy;rcases List.mem_append.1 hy with hy|hy
  ·exact al (al (h2.own.ax y hy) hk (hto _ (by decide))) hks (htP _ (by decide))
  ·rw[List.mem_singleton.1 hy];exact al (al hx hk (hto _ (by decide))) hks (htP _ (by decide))
 ·exact fun y hy=>al (al (h2.own.ex y hy) hk (hto _ (by decide))) hks (htP _ (by decide))
 ·have hdA:∀y∈q.acts,∀k,blk x.a k->¬blk y.a k:=fun y hy k hk1 hk2=>by
   have h3:=(ai (h.own.ax y hy) hk2).2;have h4:=hd k hk1;omega
  have hdE:∀y∈q.edges,∀k,blk x.a k->¬blk y.a k:=fun y hy k hk1 hk2=>by
   have h3:=(ai (h.own.ex y hy) hk2).2;have h4:=hd k hk1;omega
  have ap:=h.own.ap;rw[List.pairwise_append] at ap;obtain⟨a1,a2,a3⟩:=ap;simp only[List.map_append,List.map_cons,List.map_nil];rw[List.append_assoc,List.pairwise_append];refine⟨a1,?_,?_⟩
  ·rw[List.singleton_append,List.pairwise_cons];refine⟨fun b hb k hk hkb=>?_,a2⟩;obtain⟨y,hy,rfl⟩:=List.mem_map.1 hb;exact hdE y hy k hk hkb
  ·intro b hb c hc;rw[List.singleton_append] at hc;rcases List.mem_cons.1 hc with rfl|hc
   ·intro k hk hkx;obtain⟨y,hy,rfl⟩:=List.mem_map.1 hb;exact hdA y hy k hkx hk
   ·exact a3 b hb c hc
 ·exact h.own.po
 ·exact((Keeps.mono k12 (fun _ _ h=>h.elim)).trans hk (fun i _ hb=> .inr hb)).trans hks (fun i _ hb=> .inl hb)
theorem GrB.newsAct {w0 w1 w':World} {B P:Nat} {q:Gr} (h:GrB w1 B P q) (hB:w0.heap.size<=B) (hP:w0.heap.size<=P) (hN:New w0 w1) (k:Keeps (fun k=>k=P∨blk q.aa k) w1 w'):New w0 w':=
 New.keeps hN k (fun i hi hb=>by
  rcases hb with rfl|hb
  ·omega
  ·have:=(ai h.own.ao hb).1;omega)
theorem GrB.addEdge {w1 w2 w3:World} {B P:Nat} {q:Gr} (h:GrB w1 B P q) (x:GEdge) (hx:bc w2 B x.a x.c x.xs) (hd:∀k,blk x.a k->w1.heap.size<=k) (k12:New w1 w2)
  {a':Option Addr} {c':Nat} (ho:w3.ownsRow B 66 5 (.slice a' (q.edges.length+1) c') (q.edges.length+1) (q.edges.flatMap bS++bS x)) (hk:Keeps (blk q.ea) w2 w3) (hm:dS w2 q.ea a'):
  (w3.cell? ⟨P,2,none⟩=some (.slice q.ea q.edges.length q.ec)∧w3.frozen? ⟨P,2,none⟩=false∧P<w3.heap.size)∧
  GrB (w3.setCell ⟨P,2,none⟩ (.slice a' (q.edges.length+1) c')) B P { q with ea:=a',ec:=c',edges:=q.edges++[x] } ∧Keeps (fun k=>k=P∨blk q.ea k) w1 (w3.setCell ⟨P,2,none⟩ (.slice a' (q.edges.length+1) c')):=by
 have h2:=h.new k12;have cw:∀g,blk q.ea g->∃cur,w2.heap[g]? =some (.cells cur 66 (0,0)):=fun g hg=>aL h2.own.eo (aV hg)
 have hto:∀e:TypeId,66≠e->∀g,blk q.ea g->∃cur t fr,w2.heap[g]? =some (.cells cur t fr)∧t≠e:=fun e he g hg=>by
  obtain⟨cur,hc⟩:=cw g hg;exact⟨cur,_,_,hc,he⟩
 have hP3:=hk.heap h2.blkP (fun hb=>by obtain⟨cur,hc⟩:=cw _ hb;rw[h2.blkP] at hc;simp at hc);have hP4:=block_setCell (i:=2) hP3 (.slice a' (q.edges.length+1) c');have hks:Keeps (fun k=>k=P) w3 (w3.setCell ⟨P,2,none⟩ (.slice a' (q.edges.length+1) c')):=Keeps.setCell w3 _ _ rfl;have htP:∀e:TypeId,26≠e->∀g,g=P->∃cur t fr,w3.heap[g]? =some (.cells cur t fr)∧t≠e:=fun e he g hg=>⟨_,_,_,hg▸hP3,he⟩
 have hmv:∀k,blk a' k->blk q.ea k∨w2.heap.size<=k:=fun k hb=>cX hm hb
 have tB:=k12.size;refine⟨⟨?_,unfrozen_of_block hP3 2,(Array.getElem?_eq_some_iff.1 hP3).1⟩,⟨?_,?_,?_,?_,?_,?_,?_,?_,?_⟩,?_⟩
 ·rw[cell_of_block hP3 2];rfl
 ·rw[hP4];simp
 ·exact al (al h2.own.ao hk (hto _ (by decide))) hks (htP _ (by decide))
 ·have:=al ho hks (htP _ (by decide));simpa using this
 ·exact al (al h2.own.io hk (hto _ (by decide))) hks (htP _ (by decide))
 ·exact al (al h2.own.oo hk (hto _ (by decide))) hks (htP _ (by decide))
 ·exact fun y hy=>al (al (h2.own.ax y hy) hk (hto _ (by decide))) hks (htP _ (by decide))
 ·intro y hy;rcases List.mem_append.1 hy with hy|hy
  ·exact al (al (h2.own.ex y hy) hk (hto _ (by decide))) hks (htP _ (by decide))
  ·rw[List.mem_singleton.1 hy];exact al (al hx hk (hto _ (by decide))) hks (htP _ (by decide))
 ·have hdA:∀y∈q.acts,∀k,blk x.a k->¬blk y.a k:=fun y hy k hk1 hk2=>by
   have h3:=(ai (h.own.ax y hy) hk2).2;have h4:=hd k hk1;omega
  have hdE:∀y∈q.edges,∀k,blk x.a k->¬blk y.a k:=fun y hy k hk1 hk2=>by
   have h3:=(ai (h.own.ex y hy) hk2).2;have h4:=hd k hk1;omega
  simp only[List.map_append,List.map_cons,List.map_nil];rw[<-List.append_assoc,List.pairwise_append];refine⟨h.own.ap,List.pairwise_singleton _ _,?_⟩;intro b hb c hc;rw[List.mem_singleton.1 hc];intro k hk hkx;rcases List.mem_append.1 hb with hb|hb
  ·obtain⟨y,hy,rfl⟩:=List.mem_map.1 hb;exact hdA y hy k hkx hk
  ·obtain⟨y,hy,rfl⟩:=List.mem_map.1 hb;exact hdE y hy k hkx hk
 ·exact h.own.po
 ·exact((Keeps.mono k12 (fun _ _ h=>h.elim)).trans hk (fun i _ hb=> .inr hb)).trans hks (fun i _ hb=> .inl hb)
theorem GrB.newsEdge {w0 w1 w':World} {B P:Nat} {q:Gr} (h:GrB w1 B P q) (hB:w0.heap.size<=B) (hP:w0.heap.size<=P) (hN:New w0 w1) (k:Keeps (fun k=>k=P∨blk q.ea k) w1 w'):New w0 w':=
 New.keeps hN k (fun i hi hb=>by
  rcases hb with rfl|hb
  ·omega
  ·have:=(ai h.own.eo hb).1;omega)
theorem GrB.addIn {w1 w2 w3:World} {B P:Nat} {q:Gr} (h:GrB w1 B P q) (x:GPort) (k12:New w1 w2)
  {a':Option Addr} {c':Nat} (ho:w3.ownsRow B 82 3 (.slice a' (q.ins.length+1) c') (q.ins.length+1) (q.ins.flatMap aH++aH x)) (hk:Keeps (blk q.ia) w2 w3) (hm:dS w2 q.ia a'):
  (w3.cell? ⟨P,3,none⟩=some (.slice q.ia q.ins.length q.ic)∧w3.frozen? ⟨P,3,none⟩=false∧P<w3.heap.size)∧
  GrB (w3.setCell ⟨P,3,none⟩ (.slice a' (q.ins.length+1) c')) B P { q with ia:=a',ic:=c',ins:=q.ins++[x] } ∧Keeps (fun k=>k=P∨blk q.ia k) w1 (w3.setCell ⟨P,3,none⟩ (.slice a' (q.ins.length+1) c')):=by
 have h2:=h.new k12;have cw:∀g,blk q.ia g->∃cur,w2.heap[g]? =some (.cells cur 82 (0,0)):=fun g hg=>aL h2.own.io (aV hg)
 have hto:∀e:TypeId,82≠e->∀g,blk q.ia g->∃cur t fr,w2.heap[g]? =some (.cells cur t fr)∧t≠e:=fun e he g hg=>by
  obtain⟨cur,hc⟩:=cw g hg;exact⟨cur,_,_,hc,he⟩
 have hP3:=hk.heap h2.blkP (fun hb=>by obtain⟨cur,hc⟩:=cw _ hb;rw[h2.blkP] at hc;simp at hc);have hP4:=block_setCell (i:=3) hP3 (.slice a' (q.ins.length+1) c');have hks:Keeps (fun k=>k=P) w3 (w3.setCell ⟨P,3,none⟩ (.slice a' (q.ins.length+1) c')):=Keeps.setCell w3 _ _ rfl;have htP:∀e:TypeId,26≠e->∀g,g=P->∃cur t fr,w3.heap[g]? =some (.cells cur t fr)∧t≠e:=fun e he g hg=>⟨_,_,_,hg▸hP3,he⟩
 have hmv:∀k,blk a' k->blk q.ia k∨w2.heap.size<=k:=fun k hb=>cX hm hb
 have tB:=k12.size;refine⟨⟨?_,unfrozen_of_block hP3 3,(Array.getElem?_eq_some_iff.1 hP3).1⟩,⟨?_,?_,?_,?_,?_,?_,?_,?_,?_⟩,?_⟩
 ·rw[cell_of_block hP3 3];rfl
 ·rw[hP4];simp
 ·exact al (al h2.own.ao hk (hto _ (by decide))) hks (htP _ (by decide))
 ·exact al (al h2.own.eo hk (hto _ (by decide))) hks (htP _ (by decide))
 ·have:=al ho hks (htP _ (by decide));simpa using this
 ·refine al (hk.owns h2.own.oo (fun k hk1 hx=>?_)) hks (htP _ (by decide));have hk2:blk q.oa k:=aM hk1;exact h.own.po k hx hk2
 ·exact fun y hy=>al (al (h2.own.ax y hy) hk (hto _ (by decide))) hks (htP _ (by decide))
 ·exact fun y hy=>al (al (h2.own.ex y hy) hk (hto _ (by decide))) hks (htP _ (by decide))
 ·exact h.own.ap
 ·intro k hk1 hk2;rcases hmv k hk1 with hx|hx
  ·exact h.own.po k hx hk2
  ·have:=(ai h.own.oo hk2).2;omega
 ·exact((Keeps.mono k12 (fun _ _ h=>h.elim)).trans hk (fun i _ hb=> .inr hb)).trans hks (fun i _ hb=> .inl hb)
theorem GrB.newsIn {w0 w1 w':World} {B P:Nat} {q:Gr} (h:GrB w1 B P q) (hB:w0.heap.size<=B) (hP:w0.heap.size<=P) (hN:New w0 w1) (k:Keeps (fun k=>k=P∨blk q.ia k) w1 w'):New w0 w':=
 New.keeps hN k (fun i hi hb=>by
  rcases hb with rfl|hb
  ·omega
  ·have:=(ai h.own.io hb).1;omega)
theorem GrB.addOut {w1 w2 w3:World} {B P:Nat} {q:Gr} (h:GrB w1 B P q) (x:GPort) (k12:New w1 w2)
  {a':Option Addr} {c':Nat} (ho:w3.ownsRow B 82 3 (.slice a' (q.outs.length+1) c') (q.outs.length+1) (q.outs.flatMap aH++aH x)) (hk:Keeps (blk q.oa) w2 w3) (hm:dS w2 q.oa a'):
  (w3.cell? ⟨P,4,none⟩=some (.slice q.oa q.outs.length q.oc)∧w3.frozen? ⟨P,4,none⟩=false∧P<w3.heap.size)∧
  GrB (w3.setCell ⟨P,4,none⟩ (.slice a' (q.outs.length+1) c')) B P { q with oa:=a',oc:=c',outs:=q.outs++[x] } ∧Keeps (fun k=>k=P∨blk q.oa k) w1 (w3.setCell ⟨P,4,none⟩ (.slice a' (q.outs.length+1) c')):=by
 have h2:=h.new k12;have cw:∀g,blk q.oa g->∃cur,w2.heap[g]? =some (.cells cur 82 (0,0)):=fun g hg=>aL h2.own.oo (aV hg)
 have hto:∀e:TypeId,82≠e->∀g,blk q.oa g->∃cur t fr,w2.heap[g]? =some (.cells cur t fr)∧t≠e:=fun e he g hg=>by
  obtain⟨cur,hc⟩:=cw g hg;exact⟨cur,_,_,hc,he⟩
 have hP3:=hk.heap h2.blkP (fun hb=>by obtain⟨cur,hc⟩:=cw _ hb;rw[h2.blkP] at hc;simp at hc);have hP4:=block_setCell (i:=4) hP3 (.slice a' (q.outs.length+1) c');have hks:Keeps (fun k=>k=P) w3 (w3.setCell ⟨P,4,none⟩ (.slice a' (q.outs.length+1) c')):=Keeps.setCell w3 _ _ rfl;have htP:∀e:TypeId,26≠e->∀g,g=P->∃cur t fr,w3.heap[g]? =some (.cells cur t fr)∧t≠e:=fun e he g hg=>⟨_,_,_,hg▸hP3,he⟩
 have hmv:∀k,blk a' k->blk q.oa k∨w2.heap.size<=k:=fun k hb=>cX hm hb
 have tB:=k12.size;refine⟨⟨?_,unfrozen_of_block hP3 4,(Array.getElem?_eq_some_iff.1 hP3).1⟩,⟨?_,?_,?_,?_,?_,?_,?_,?_,?_⟩,?_⟩
 ·rw[cell_of_block hP3 4];rfl
 ·rw[hP4];simp
 ·exact al (al h2.own.ao hk (hto _ (by decide))) hks (htP _ (by decide))
 ·exact al (al h2.own.eo hk (hto _ (by decide))) hks (htP _ (by decide))
 ·refine al (hk.owns h2.own.io (fun k hk1 hx=>?_)) hks (htP _ (by decide));have hk2:blk q.ia k:=aM hk1;exact h.own.po k hk2 hx
 ·have:=al ho hks (htP _ (by decide));simpa using this
 ·exact fun y hy=>al (al (h2.own.ax y hy) hk (hto _ (by decide))) hks (htP _ (by decide))
 ·exact fun y hy=>al (al (h2.own.ex y hy) hk (hto _ (by decide))) hks (htP _ (by decide))
 ·exact h.own.ap
 ·intro k hk1 hk2;rcases hmv k hk2 with hx|hx
  ·exact h.own.po k hk1 hx
  ·have:=(ai h.own.io hk1).2;omega
 ·exact((Keeps.mono k12 (fun _ _ h=>h.elim)).trans hk (fun i _ hb=> .inr hb)).trans hks (fun i _ hb=> .inl hb)
theorem GrB.newsOut {w0 w1 w':World} {B P:Nat} {q:Gr} (h:GrB w1 B P q) (hB:w0.heap.size<=B) (hP:w0.heap.size<=P) (hN:New w0 w1) (k:Keeps (fun k=>k=P∨blk q.oa k) w1 w'):New w0 w':=
 New.keeps hN k (fun i hi hb=>by
  rcases hb with rfl|hb
  ·omega
  ·have:=(ai h.own.oo hb).1;omega)
theorem qK:(Tryz.prog.info? 63).map (fun i=>(i.zero,i.size,i.bytes))=some (some (.agg #[.string ⟨#[]⟩,.int .u8 0,.slice none 0 0]),3,48):=by kernel_rfl
theorem oz:(Tryz.prog.info? 66).map (fun i=>(i.zero,i.size,i.bytes))=some (some (.agg #[.int .i64 0,.int .i64 0,.int .i64 0,.int .i64 0,.slice none 0 0]),5,56):=by kernel_rfl
theorem oB:(Tryz.prog.info? 82).map (fun i=>(i.zero,i.size,i.bytes))=some (some (.agg #[.string ⟨#[]⟩,.int .i64 0,.int .i64 0]),3,32):=by kernel_rfl
theorem uV (x:GAct):∀u∈ct x,u.oneCell'=true:=by intro u hu;simp[ct] at hu;rcases hu with rfl|rfl|rfl<;>rfl
theorem sg (x:GEdge):∀u∈bS x,u.oneCell'=true:=by intro u hu;simp[bS] at hu;rcases hu with rfl|rfl|rfl|rfl|rfl<;>rfl
theorem l8 (x:GPort):∀u∈aH x,u.oneCell'=true:=by intro u hu;simp[aH] at hu;rcases hu with rfl|rfl|rfl<;>rfl
theorem l6 {kd:Int} {l:List SIt} {k:Nat} (hk:k<l.length):ofK kd (l.take (k+1))=if l[k].kind=kd then ofK kd (l.take k)++[l[k]] else ofK kd (l.take k):=by
 rw[List.take_succ_eq_append_getElem hk,eh]
theorem pX {kd i d:Int} {l:List SIt} {k:Nat} (hk:k<l.length) (hkd:l[k].kind=kd) (hi:((ofK kd (l.take k)).length:Int)=i):fj l kd i d=if d=1 then l[k].fa else if d=2 then l[k].ta else l[k].at_:=by
 unfold fj;have e:l=l.take k++l[k]::l.drop (k+1):=by rw[List.getElem_cons_drop];exact(List.take_append_drop k l).symm
 have h:(ofK kd l)[i.toNat]? =some l[k]:=by
  conv=>lhs;rw[e]
  unfold ofK at hi ⊢;rw[List.filter_append,List.filter_cons_of_pos (by simp[hkd])];rw[List.getElem?_append_right (by omega)];rw[show i.toNat-(List.filter (fun x=>decide (x.kind=kd)) (l.take k)).length=0 by omega];rfl
 rw[h]
theorem oS {kd i d:Int} {l:List SIt} (h:((ofK kd l).length:Int)<=i):fj l kd i d=0:=by
 unfold fj;rw[List.getElem?_eq_none (by omega)]
theorem sZ (w:World) (s:Sk) (kd i d:Int) (hs:SkAt w s) (hl:SLen s) (hi0:0<=i):
  Calls Tryz.prog 55 #[s.v,.agg #[.int .u8 kd,I i,I d]] w fun e w'=>e= .returned (I (fj s.items kd i d))∧New w w':=by
 have HS:=Lib.hid hs;have hli:=hl.i;obtain⟨si,hsi⟩:∃a,s.ia=a:=⟨_,rfl⟩
 simp only[Sk.v,Sk.cs];rw[hsi];have HSI:=Lib.hid hsi;obtain⟨r,hr⟩:∃r,fj s.items kd i d=r:=⟨_,rfl⟩
 rw[hr];have HR:=Lib.hid hr;clear hs hl hsi hr;go_enter Tryz.func55,Tryz.ntmps55;go_wp2_with fail;have na:New w (w.alloc (.cells #[.string s.name,.slice si s.items.length s.ic] 52)):=(New.refl w).alloc _;have ha:(w.alloc (.cells #[.string s.name,.slice si s.items.length s.ic] 52)).heap[w.heap.size]? =some (.cells #[.string s.name,.slice si s.items.length s.ic] 52 (0,0)):=heap_alloc_new w _;have sa:(w.alloc (.cells #[.string s.name,.slice si s.items.length s.ic] 52)).heap.size=w.heap.size+1:=aG _ _;generalize(w.alloc (.cells #[.string s.name,.slice si s.items.length s.ic] 52))=wa at na ha sa ⊢;have nb:New wa (wa.alloc (.cells #[.int .u8 kd,I i,I d] 85)):=(New.refl wa).alloc _;have hb:(wa.alloc (.cells #[.int .u8 kd,I i,I d] 85)).heap[wa.heap.size]? =some (.cells #[.int .u8 kd,I i,I d] 85 (0,0)):=heap_alloc_new wa _;rw[sa] at hb;generalize(wa.alloc (.cells #[.int .u8 kd,I i,I d] 85))=wb at nb hb ⊢;have HB:=Lib.hid hb;have hN:=na.trans nb;clear na nb ha hb sa;go_loopw [5,11] (fun n j wr=>∃(k:Nat) (m:Nat),k<=s.items.length∧j= .int .i64 k∧n= .int .i64 m∧m<=k∧(m:Int)<=i∧Hid (m=(ofK kd (s.items.take k)).length∧New wb wr)) (fun _ j _=>s.items.length-(intOf j).toNat)
 case atStart=>exact⟨0,0,by omega,rfl,rfl,by omega,by omega,Lib.hid ⟨rfl,New.refl _⟩⟩
 case round=>
  obtain⟨k,m,hk,rfl,rfl,hmk,hmi,HM⟩:=hrel;have hNr:=hN.trans HM.out.2;obtain⟨⟨p0,p1,p2⟩,-,hPl⟩:=aJ (Keeps.heap HM.out.2 HB.out (fun h=>h));by_cases hk1:k<s.items.length
  ·have hkI:(k:Int)<(s.items.length:Int):=by omega
   have hkd:decide (k<s.items.length)=true:=decide_eq_true hk1;obtain⟨b,off,hab,q0,q1,q2,q3,q4,q5,q6,q7,q8,q9,q10⟩:=eu (HS.out.new hNr).sl hk1;have hbw:b<wr.heap.size:=World.block_lt_of_cell? wr _ q0;have e:si=some ⟨b,off,none⟩:=HSI.out.symm.trans hab;subst e;have HT:=Lib.hid (l6 (kd:=kd) hk1);have HH:Hid (s.items[k].kind=kd->(m:Int)=i->r=if d=1 then s.items[k].fa else if d=2 then s.items[k].ta else s.items[k].at_):=Lib.hid (fun h1 h2=>by rw[<-HR.out];exact pX hk1 h1 (by rw[<-HM.out.1];exact h2));clear hab;generalize s.items[k]=x at q0 q1 q2 q3 q4 q5 q6 q7 q8 q9 q10 HT HH;by_cases hkk:x.kind=kd
   ·have d1:(x.kind != kd)=false:=by simp[hkk]
    have HT2:Hid ((ofK kd (s.items.take (k+1))).length=m+1):=Lib.hid (by rw[HT.out,if_pos hkk,List.length_append,HM.out.1];rfl);by_cases hmi2:(m:Int)=i
    ·have d2:((m:Int)==i)=true:=by simp[hmi2]
     have HV:=Lib.hid (HH.out hkk hmi2);clear HH HT HT2 hkk hmi2;by_cases e1:d=1
     ·have d3:(d==1)=true:=by simp[e1]
      rw[if_pos e1] at HV;clear e1;go_wp2_with fail;go_ret
      exact⟨by rw[HV.out];rfl,hNr.alloc _⟩
     ·have d3:(d==1)=false:=by simp[e1]
      rw[if_neg e1] at HV;clear e1;by_cases e2:d=2
      ·have d4:(d==2)=true:=by simp[e2]
       rw[if_pos e2] at HV;clear e2;go_wp2_with fail;go_ret
       exact⟨by rw[HV.out];rfl,hNr.alloc _⟩
      ·have d4:(d==2)=false:=by simp[e2]
       rw[if_neg e2] at HV;clear e2;go_wp2_with fail;go_ret
       exact⟨by rw[HV.out];rfl,hNr.alloc _⟩
    ·have d2:((m:Int)==i)=false:=by simp[hmi2]
     have hlt:(m:Int)+1<=i:=by omega
     clear HH HT hkk hmi2;go_wp2_with fail;go_roundw
     case rel=>exact⟨k+1,m+1,by omega,by go_num,by go_num,by omega,by omega,Lib.hid ⟨HT2.out.symm,HM.out.2.alloc _⟩⟩
     case measure=>simp[intOf];omega
   ·have d1:(x.kind != kd)=true:=by simp[hkk]
    have HT2:Hid ((ofK kd (s.items.take (k+1))).length=m):=Lib.hid (by rw[HT.out,if_neg hkk,HM.out.1]);clear HH HT hkk;go_wp2_with fail;go_roundw
    case rel=>exact⟨k+1,m,by omega,by go_num,rfl,by omega,by omega,Lib.hid ⟨HT2.out.symm,HM.out.2.alloc _⟩⟩
    case measure=>simp[intOf];omega
  ·have hke:k=s.items.length:=by omega
   have hkd:decide (k<s.items.length)=false:=decide_eq_false hk1;have HV:Hid (r=0):=Lib.hid (by
    rw[<-HR.out];refine oS ?_;have h1:=HM.out.1;rw[hke,List.take_length] at h1;omega)
   clear hke hk hk1;go_wp2_with fail;go_ret
   exact⟨by rw[HV.out];rfl,hNr⟩
abbrev zG:Array Value:=#[.string ⟨#[]⟩,.slice none 0 0,.slice none 0 0,.slice none 0 0,.slice none 0 0]
def nN (w:World) (s:Sk) (e:Ending) (w':World):Prop:=
 if(cx s).1≠0 then e= .returned (.tuple #[.agg zG,.agg #[I (cx s).1,I (cx s).2]])∧New w w'
 else ∃q:Gr,e= .returned (.tuple #[q.v,.agg #[I 0,I 0]])∧GrOwn w' w.heap.size q∧q.bare=aX s∧New w w'
structure BAt (w:World) (s:Sk) (P M n:Nat) (l:List SIt) (q:Gr) (w':World):Prop where
 gr:GrB w' w.heap.size P q
 ba:q.bare=bv s.name (cv s.items) l
 mp:cH w' M n (cv s.items)
 nw:New w w'
 hs:w'.heap[w.heap.size]? =some (.cells s.cs 52 (0,0))
 h1:w'.heap[w.heap.size+1]? =some (.cells zG 26 (0,0))
 h2:w'.heap[w.heap.size+1+1]? =some (.cells #[I 0,I 0] 33 (0,0))
 hP:w.heap.size+1+1<P
theorem BAt.new {w w1 w2:World} {s:Sk} {P M n:Nat} {l:List SIt} {q:Gr} (h:BAt w s P M n l q w1) (k:New w1 w2):BAt w s P M n l q w2:=
 ⟨h.gr.new k,h.ba,h.mp.new k,h.nw.trans k,Keeps.heap k h.hs (fun h=>h),Keeps.heap k h.h1 (fun h=>h),Keeps.heap k h.h2 (fun h=>h),h.hP⟩
theorem BAt.step {w w1 w':World} {s:Sk} {P M n:Nat} {l l':List SIt} {q q':Gr} {a:Option Addr} {T:TypeId} (h:BAt w s P M n l q w1) (hg:GrB w' w.heap.size P q') (hb:q'.bare=bv s.name (cv s.items) l')
  (k:Keeps (fun k=>k=P∨blk a k) w1 w') (hn:New w w') (ht:∀g,blk a g->∃cur,w1.heap[g]? =some (.cells cur T (0,0))) (hT:T≠52∧T≠26∧T≠33):BAt w s P M n l' q' w':=by
 have hP:=h.hP;have hh:∀ {b:Nat} {cs:Array Value} {t:TypeId},w1.heap[b]? =some (.cells cs t (0,0))->t≠T->b≠P->w'.heap[b]? =some (.cells cs t (0,0)):=fun hb hne hbP=>k.heap hb (fun hx=>by
  rcases hx with hx|hx
  ·exact hbP hx
  ·obtain⟨cur,hc⟩:=ht _ hx;rw[hb] at hc;simp at hc;exact hne hc.2)
 obtain⟨es,iW,hM⟩:=h.mp.block;refine⟨hg,hb,h.mp.keeps k (fun hx=>?_),hn,hh h.hs (Ne.symm hT.1) (by omega),hh h.h1 (Ne.symm hT.2.1) (by omega),hh h.h2 (Ne.symm hT.2.2) (by omega),hP⟩;rcases hx with hx|hx
 ·subst hx;have:=h.gr.blkP;rw[hM] at this;cases this
 ·obtain⟨cur,hc⟩:=ht _ hx;rw[hM] at hc;cases hc
theorem xA {name:ByteArray} {V:ByteArray->Int} {l:List SIt} {q:Gr} {it:SIt} {x:GAct} {a':Option Addr} {c':Nat} (h:q.bare=bv name V l) (hk:it.kind=1) (hx:x.bare=oC it):
  ({ q with aa:=a',ac:=c',acts:=q.acts++[x] } :Gr).bare=bv name V (l++[it]):=by
 unfold Gr.bare bv at h ⊢;simp only[eh,hk,if_true,Gr.mk.injEq,true_and,and_true] at h ⊢;obtain⟨h0,h1,h2,h3,h4⟩:=h;simp[h0,h1,h2,h3,h4,hx]
theorem BAt.addAct {w w1 w2 w3:World} {s:Sk} {P M n:Nat} {l:List SIt} {q:Gr} (h:BAt w s P M n l q w1) (it:SIt) (hk:it.kind=1) (x:GAct) (hx:bc w2 w.heap.size x.a x.c x.xs) (hd:∀k,blk x.a k->w1.heap.size<=k) (hb:x.bare=oC it) (k12:New w1 w2)
  {a':Option Addr} {c':Nat} (ho:w3.ownsRow w.heap.size 63 3 (.slice a' (q.acts.length+1) c') (q.acts.length+1) (q.acts.flatMap ct++ct x)) (hkp:Keeps (blk q.aa) w2 w3) (hm:dS w2 q.aa a'):
  (w3.cell? ⟨P,1,none⟩=some (.slice q.aa q.acts.length q.ac)∧w3.frozen? ⟨P,1,none⟩=false∧P<w3.heap.size)∧
  BAt w s P M n (l++[it]) { q with aa:=a',ac:=c',acts:=q.acts++[x] } (w3.setCell ⟨P,1,none⟩ (.slice a' (q.acts.length+1) c')):=by
 obtain⟨h1,h2,h3⟩:=h.gr.addAct x hx hd k12 ho hkp hm;have hP:=h.hP;exact⟨h1,h.step h2 (xA h.ba hk hb) h3 (h.gr.newsAct (Nat.le_refl _) (by omega) h.nw h3) (fun g hg=>aL h.gr.own.ao (aV hg)) (by decide)⟩
theorem uO {name:ByteArray} {V:ByteArray->Int} {l:List SIt} {q:Gr} (h:q.bare=bv name V l):q.acts.length<=l.length:=by
 have h1:=congrArg (fun g:Gr=>g.acts.length) h;simp only[Gr.bare,bv,List.length_map] at h1;have h2:=kE 1 l;omega
theorem vr {name:ByteArray} {V:ByteArray->Int} {l:List SIt} {q:Gr} {it:SIt} {x:GEdge} {a':Option Addr} {c':Nat} (h:q.bare=bv name V l) (hk:it.kind=2) (hx:x.bare=ll V it):
  ({ q with ea:=a',ec:=c',edges:=q.edges++[x] } :Gr).bare=bv name V (l++[it]):=by
 unfold Gr.bare bv at h ⊢;simp only[eh,hk,if_true,Gr.mk.injEq,true_and,and_true] at h ⊢;obtain⟨h0,h1,h2,h3,h4⟩:=h;simp[h0,h1,h2,h3,h4,hx]
theorem BAt.addEdge {w w1 w2 w3:World} {s:Sk} {P M n:Nat} {l:List SIt} {q:Gr} (h:BAt w s P M n l q w1) (it:SIt) (hk:it.kind=2) (x:GEdge) (hx:bc w2 w.heap.size x.a x.c x.xs) (hd:∀k,blk x.a k->w1.heap.size<=k) (hb:x.bare=ll (cv s.items) it) (k12:New w1 w2)
  {a':Option Addr} {c':Nat} (ho:w3.ownsRow w.heap.size 66 5 (.slice a' (q.edges.length+1) c') (q.edges.length+1) (q.edges.flatMap bS++bS x)) (hkp:Keeps (blk q.ea) w2 w3) (hm:dS w2 q.ea a'):
  (w3.cell? ⟨P,2,none⟩=some (.slice q.ea q.edges.length q.ec)∧w3.frozen? ⟨P,2,none⟩=false∧P<w3.heap.size)∧
  BAt w s P M n (l++[it]) { q with ea:=a',ec:=c',edges:=q.edges++[x] } (w3.setCell ⟨P,2,none⟩ (.slice a' (q.edges.length+1) c')):=by
 obtain⟨h1,h2,h3⟩:=h.gr.addEdge x hx hd k12 ho hkp hm;have hP:=h.hP;exact⟨h1,h.step h2 (vr h.ba hk hb) h3 (h.gr.newsEdge (Nat.le_refl _) (by omega) h.nw h3) (fun g hg=>aL h.gr.own.eo (aV hg)) (by decide)⟩
theorem rV {name:ByteArray} {V:ByteArray->Int} {l:List SIt} {q:Gr} (h:q.bare=bv name V l):q.edges.length<=l.length:=by
 have h1:=congrArg (fun g:Gr=>g.edges.length) h;simp only[Gr.bare,bv,List.length_map] at h1;have h2:=kE 2 l;omega
theorem zY {name:ByteArray} {V:ByteArray->Int} {l:List SIt} {q:Gr} {it:SIt} {x:GPort} {a':Option Addr} {c':Nat} (h:q.bare=bv name V l) (hk:it.kind=3) (hx:x=v6 V it):
  ({ q with ia:=a',ic:=c',ins:=q.ins++[x] } :Gr).bare=bv name V (l++[it]):=by
 unfold Gr.bare bv at h ⊢;simp only[eh,hk,if_true,Gr.mk.injEq,true_and,and_true] at h ⊢;obtain⟨h0,h1,h2,h3,h4⟩:=h;simp[h0,h1,h2,h3,h4,hx]
theorem BAt.addIn {w w1 w2 w3:World} {s:Sk} {P M n:Nat} {l:List SIt} {q:Gr} (h:BAt w s P M n l q w1) (it:SIt) (hk:it.kind=3) (x:GPort) (hb:x=v6 (cv s.items) it) (k12:New w1 w2)
  {a':Option Addr} {c':Nat} (ho:w3.ownsRow w.heap.size 82 3 (.slice a' (q.ins.length+1) c') (q.ins.length+1) (q.ins.flatMap aH++aH x)) (hkp:Keeps (blk q.ia) w2 w3) (hm:dS w2 q.ia a'):
  (w3.cell? ⟨P,3,none⟩=some (.slice q.ia q.ins.length q.ic)∧w3.frozen? ⟨P,3,none⟩=false∧P<w3.heap.size)∧
  BAt w s P M n (l++[it]) { q with ia:=a',ic:=c',ins:=q.ins++[x] } (w3.setCell ⟨P,3,none⟩ (.slice a' (q.ins.length+1) c')):=by
 obtain⟨h1,h2,h3⟩:=h.gr.addIn x k12 ho hkp hm;have hP:=h.hP;exact⟨h1,h.step h2 (zY h.ba hk hb) h3 (h.gr.newsIn (Nat.le_refl _) (by omega) h.nw h3) (fun g hg=>aL h.gr.own.io (aV hg)) (by decide)⟩
theorem yK {name:ByteArray} {V:ByteArray->Int} {l:List SIt} {q:Gr} (h:q.bare=bv name V l):q.ins.length<=l.length:=by
 have h1:=congrArg (fun g:Gr=>g.ins.length) h;simp only[Gr.bare,bv,List.length_map] at h1;have h2:=kE 3 l;omega
theorem xC {name:ByteArray} {V:ByteArray->Int} {l:List SIt} {q:Gr} {it:SIt} {x:GPort} {a':Option Addr} {c':Nat} (h:q.bare=bv name V l) (hk:it.kind=4) (hx:x=pF V it):
  ({ q with oa:=a',oc:=c',outs:=q.outs++[x] } :Gr).bare=bv name V (l++[it]):=by
 unfold Gr.bare bv at h ⊢;simp only[eh,hk,if_true,Gr.mk.injEq,true_and,and_true] at h ⊢;obtain⟨h0,h1,h2,h3,h4⟩:=h;simp[h0,h1,h2,h3,h4,hx]
theorem BAt.addOut {w w1 w2 w3:World} {s:Sk} {P M n:Nat} {l:List SIt} {q:Gr} (h:BAt w s P M n l q w1) (it:SIt) (hk:it.kind=4) (x:GPort) (hb:x=pF (cv s.items) it) (k12:New w1 w2)
  {a':Option Addr} {c':Nat} (ho:w3.ownsRow w.heap.size 82 3 (.slice a' (q.outs.length+1) c') (q.outs.length+1) (q.outs.flatMap aH++aH x)) (hkp:Keeps (blk q.oa) w2 w3) (hm:dS w2 q.oa a'):
  (w3.cell? ⟨P,4,none⟩=some (.slice q.oa q.outs.length q.oc)∧w3.frozen? ⟨P,4,none⟩=false∧P<w3.heap.size)∧
  BAt w s P M n (l++[it]) { q with oa:=a',oc:=c',outs:=q.outs++[x] } (w3.setCell ⟨P,4,none⟩ (.slice a' (q.outs.length+1) c')):=by
 obtain⟨h1,h2,h3⟩:=h.gr.addOut x k12 ho hkp hm;have hP:=h.hP;exact⟨h1,h.step h2 (xC h.ba hk hb) h3 (h.gr.newsOut (Nat.le_refl _) (by omega) h.nw h3) (fun g hg=>aL h.gr.own.oo (aV hg)) (by decide)⟩
theorem uP {name:ByteArray} {V:ByteArray->Int} {l:List SIt} {q:Gr} (h:q.bare=bv name V l):q.outs.length<=l.length:=by
 have h1:=congrArg (fun g:Gr=>g.outs.length) h;simp only[Gr.bare,bv,List.length_map] at h1;have h2:=kE 4 l;omega
theorem uH {s:Sk} {q:Gr} (h:q.bare=aX s) (hl:SLen s):GLen q:=by
 have h1:=uO h;have h2:=rV h;have h3:=yK h;have h4:=uP h;have hi:=hl.i;have hk:∀k (x:SIt),x∈ofK k s.items->x∈s.items:=fun k x hx=>(List.mem_filter.1 hx).1
 unfold Gr.bare aX bv at h;simp only[Gr.mk.injEq,true_and] at h;obtain⟨e0,e1,e2,e3,e4⟩:=h;refine⟨by omega,by omega,by omega,by omega,fun x hx=>?_,fun x hx=>?_,fun x hx=>?_,fun x hx=>?_,by rw[e0];exact hl.n⟩
 ·have:x.bare∈(ofK 1 s.items).map oC:=by rw[<-e1];exact List.mem_map_of_mem hx
  obtain⟨y,hy,hye⟩:=List.mem_map.1 this;have hb:=hl.ix y (hk _ _ hy);have e5:x.xs=y.xs:=congrArg GAct.xs hye.symm;have e6:x.name=y.name:=congrArg GAct.name hye.symm;rw[e5,e6];exact⟨hb.1,hb.2.1⟩
 ·have:x.bare∈(ofK 2 s.items).map (ll (cv s.items)):=by rw[<-e2];exact List.mem_map_of_mem hx
  obtain⟨y,hy,hye⟩:=List.mem_map.1 this;have hb:=hl.ix y (hk _ _ hy);have e5:x.xs=y.xs:=congrArg GEdge.xs hye.symm;rw[e5];exact hb.1
 ·rw[e3] at hx;obtain⟨y,hy,hye⟩:=List.mem_map.1 hx;have e6:x.name=y.name:=congrArg GPort.name hye.symm;rw[e6];exact(hl.ix y (hk _ _ hy)).2.1
 ·rw[e4] at hx;obtain⟨y,hy,hye⟩:=List.mem_map.1 hx;have e6:x.name=y.name:=congrArg GPort.name hye.symm;rw[e6];exact(hl.ix y (hk _ _ hy)).2.1
theorem GrOwn.results {w:World} {B R1 R2:Nat} {q:Gr} {c1 c2:Array Value} (h:GrOwn w B q) (h1:w.heap[R1]? =some (.cells c1 26 (0,0))) (h2:w.heap[R2]? =some (.cells c2 33 (0,0))) {w':World} (k:Keeps (fun k=>k=R1∨k=R2) w w'):GrOwn w' B q:=
 h.other k (fun g hg=>by
  rcases hg with rfl|rfl
  ·exact .inr ⟨_,_,_,h1,by decide⟩
  ·exact .inr ⟨_,_,_,h2,by decide⟩)
theorem cf {w:World} {C:Nat} {a0 a1:Value} (h:w.heap[C]? =some (.cells #[a0,a1] 33 (0,0))):
  w.cell? ⟨C,0,none⟩=some a0∧w.cell? ⟨C,1,none⟩=some a1∧w.frozen? ⟨C,0,none⟩=false∧w.frozen? ⟨C,1,none⟩=false∧C<w.heap.size:=by
 refine⟨?_,?_,unfrozen_of_block h 0,unfrozen_of_block h 1,(Array.getElem?_eq_some_iff.1 h).1⟩;all_goals rw[cell_of_block h];rfl
end Go.Proofs.YtnedmonlofbahaaGreatDoor
