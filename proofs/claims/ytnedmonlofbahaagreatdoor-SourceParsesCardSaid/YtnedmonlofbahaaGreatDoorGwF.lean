/-
  GrZ, GsA, GsB, GsD, GtA, GtC, GtB: what is wanted of them.
-/
import Derived.Test.YtnedmonlofbahaaGreatDoorGwE
set_option maxRecDepth 100000
set_option maxHeartbeats 32000000
namespace Go.Proofs.YtnedmonlofbahaaGreatDoor
open Go Go.RowKit Go.Joins
set_option linter.all false
theorem aW {w:World} {R:Nat} {a0 a1 a2 a3 a4:Value} (h:w.heap[R]? =some (.cells #[a0,a1,a2,a3,a4] 26 (0,0))) (u0 u1 u2 u3 u4:Value):
  (((((w.setCell ⟨R,0,none⟩ u0).setCell ⟨R,1,none⟩ u1).setCell ⟨R,2,none⟩ u2).setCell ⟨R,3,none⟩ u3).setCell ⟨R,4,none⟩ u4).heap[R]? =some (.cells #[u0,u1,u2,u3,u4] 26 (0,0))∧
  Keeps (fun k=>k=R) w (((((w.setCell ⟨R,0,none⟩ u0).setCell ⟨R,1,none⟩ u1).setCell ⟨R,2,none⟩ u2).setCell ⟨R,3,none⟩ u3).setCell ⟨R,4,none⟩ u4):=by
 refine⟨?_,?_⟩
 ·have:=block_setCell (i:=4) (block_setCell (i:=3) (block_setCell (i:=2) (block_setCell (i:=1) (block_setCell (i:=0) h u0) u1) u2) u3) u4;simpa using this
 ·exact((((Keeps.setCell (S:=fun k=>k=R) w _ _ rfl).trans (Keeps.setCell (S:=fun k=>k=R) _ _ _ rfl) (fun _ _ h=>h)).trans (Keeps.setCell (S:=fun k=>k=R) _ _ _ rfl) (fun _ _ h=>h)).trans (Keeps.setCell (S:=fun k=>k=R) _ _ _ rfl) (fun _ _ h=>h)).trans (Keeps.setCell (S:=fun k=>k=R) _ _ _ rfl) (fun _ _ h=>h)
theorem lQ {w:World} {R:Nat} {a0 a1:Value} (h:w.heap[R]? =some (.cells #[a0,a1] 33 (0,0))) (u0 u1:Value):
  ((w.setCell ⟨R,0,none⟩ u0).setCell ⟨R,1,none⟩ u1).heap[R]? =some (.cells #[u0,u1] 33 (0,0))∧Keeps (fun k=>k=R) w ((w.setCell ⟨R,0,none⟩ u0).setCell ⟨R,1,none⟩ u1):=by
 refine⟨?_,?_⟩
 ·have:=block_setCell (i:=1) (block_setCell (i:=0) h u0) u1;simpa using this
 ·exact(Keeps.setCell (S:=fun k=>k=R) w _ _ rfl).trans (Keeps.setCell (S:=fun k=>k=R) _ _ _ rfl) (fun _ _ h=>h)
theorem ci {w w':World} {R:Nat} {a0 a1 a2 a3 a4 b0 b1 u0 u1 u2 u3 u4 v0 v1:Value} (h1:w.heap[R]? =some (.cells #[a0,a1,a2,a3,a4] 26 (0,0))) (h2:w.heap[R+1]? =some (.cells #[b0,b1] 33 (0,0)))
  (h:((((((w.setCell ⟨R,0,none⟩ u0).setCell ⟨R,1,none⟩ u1).setCell ⟨R,2,none⟩ u2).setCell ⟨R,3,none⟩ u3).setCell ⟨R,4,none⟩ u4).setCell ⟨R+1,0,none⟩ v0).setCell ⟨R+1,1,none⟩ v1=w'):
  ((w'.cell? ⟨R,0,none⟩=some u0∧w'.cell? ⟨R,1,none⟩=some u1∧w'.cell? ⟨R,2,none⟩=some u2∧w'.cell? ⟨R,3,none⟩=some u3∧w'.cell? ⟨R,4,none⟩=some u4∧R<w'.heap.size)∧(w'.cell? ⟨R+1,0,none⟩=some v0∧w'.cell? ⟨R+1,1,none⟩=some v1∧R+1<w'.heap.size))∧Keeps (fun k=>k=R∨k=R+1) w w':=by
 subst h;obtain⟨g1,g2⟩:=aW h1 u0 u1 u2 u3 u4;obtain⟨f1,f2⟩:=lQ (g2.heap h2 (by omega)) v0 v1;have g3:=f2.heap g1 (by omega);obtain⟨x0,x1,-,-,x2⟩:=cf f1;exact⟨⟨an g3,x0,x1,x2⟩,(g2.mono (fun _ _ h=> .inl h)).trans f2 (fun _ _ h=> .inr h)⟩
theorem rD (g:Gr):0<=(bz g).2.2.1:=by
 rw[jt];split
 ·unfold e7 iG;repeat' split
  all_goals simp
 ·unfold mj fT;repeat' split
  all_goals simp
theorem jW {l:List SIt} {k:Nat} (h:∀j (hj:j<l.length),j<k->gZ l[j]=false) (hk:k=l.length):l.find? gZ=none:=by
 rw[List.find?_eq_none];intro x hx;obtain⟨j,hj,rfl⟩:=List.getElem_of_mem hx;simp[h j hj (by omega)]
theorem rE {l:List SIt} {k:Nat} (hk:k<l.length) (h:∀j (hj:j<l.length),j<k->gZ l[j]=false) (hb:gZ l[k]=true):l.find? gZ=some l[k]:=by
 rw[List.find?_eq_some_iff_getElem];exact⟨hb,k,hk,rfl,fun j hj=>by simp[h j (by omega) hj]⟩
theorem mG {l:List SIt} {k:Nat} (hk:k<l.length) (s:ByteArray):cv (l.take (k+1)) s=if l[k].kind=1 then(if cv (l.take k) s=0∧s=l[k].name then((ofK 1 (l.take k)).length:Int)+1 else cv (l.take k) s) else cv (l.take k) s:=by
 rw[List.take_succ_eq_append_getElem hk];by_cases h:l[k].kind=1
 ·rw[if_pos h,yZ h]
 ·rw[if_neg h,tR h]
theorem sU (w:World) (s:Sk) (hs:SkAt w s) (hl:SLen s) (hkr:∀x∈s.items,0<=x.kind∧x.kind<=255) (hsz:s.items.length*64<=140737488355328) (hnz:∀x∈s.items,x.xs.length*8<=140737488355328):
  Calls Tryz.prog 24 #[s.v] w (nN w s):=by
 have HS:=Lib.hid hs;have HL:=Lib.hid hl;have HKR:=Lib.hid hkr;have HNZ:=Lib.hid hnz;have hli:=hl.i;obtain⟨it1,Bo,ha0,ha1,ha2⟩:=info_parts qK;obtain⟨it2,Bp,he0,he1,he2⟩:=info_parts oz;obtain⟨it3,yk,hp0,hp1,hp2⟩:=info_parts oB;obtain⟨si,hsi⟩:∃a,s.ia=a:=⟨_,rfl⟩
 simp only[Sk.v,Sk.cs];rw[hsi];have HSI:=Lib.hid hsi;obtain⟨post,cu⟩:∃post,nN w s=post:=⟨_,rfl⟩
 rw[cu];have HP:=Lib.hid cu;clear hs hl hsi cu hkr hnz;have hmm:= @run_makeMap Tryz.prog;go_enter Tryz.func24,Tryz.ntmps24;go_wp2_with fail;clear hmm;have na:New w (w.alloc (.cells #[.string s.name,.slice si s.items.length s.ic] 52)):=(New.refl w).alloc _;have ha:(w.alloc (.cells #[.string s.name,.slice si s.items.length s.ic] 52)).heap[w.heap.size]? =some (.cells #[.string s.name,.slice si s.items.length s.ic] 52 (0,0)):=heap_alloc_new w _;have sa:(w.alloc (.cells #[.string s.name,.slice si s.items.length s.ic] 52)).heap.size=w.heap.size+1:=aG _ _;generalize(w.alloc (.cells #[.string s.name,.slice si s.items.length s.ic] 52))=wa at na ha sa ⊢;have nb:New wa (wa.alloc (.cells #[.string ⟨#[]⟩,.slice none 0 0,.slice none 0 0,.slice none 0 0,.slice none 0 0] 26)):=(New.refl wa).alloc _;have hb:(wa.alloc (.cells #[.string ⟨#[]⟩,.slice none 0 0,.slice none 0 0,.slice none 0 0,.slice none 0 0] 26)).heap[wa.heap.size]? =some (.cells #[.string ⟨#[]⟩,.slice none 0 0,.slice none 0 0,.slice none 0 0,.slice none 0 0] 26 (0,0)):=heap_alloc_new wa _;have sb:(wa.alloc (.cells #[.string ⟨#[]⟩,.slice none 0 0,.slice none 0 0,.slice none 0 0,.slice none 0 0] 26)).heap.size=w.heap.size+1+1:=by rw[aG,sa]
 rw[sa] at hb;generalize(wa.alloc (.cells #[.string ⟨#[]⟩,.slice none 0 0,.slice none 0 0,.slice none 0 0,.slice none 0 0] 26))=wb at nb hb sb ⊢;have nc:New wb (wb.alloc (.cells #[I 0,I 0] 33)):=(New.refl wb).alloc _;have hc:(wb.alloc (.cells #[I 0,I 0] 33)).heap[wb.heap.size]? =some (.cells #[I 0,I 0] 33 (0,0)):=heap_alloc_new wb _;have sc:(wb.alloc (.cells #[I 0,I 0] 33)).heap.size=w.heap.size+1+1+1:=by rw[aG,sb]
 rw[sb] at hc;generalize(wb.alloc (.cells #[I 0,I 0] 33))=wc at nc hc sc ⊢;have nd:New wc (wc.alloc (.map #[] 0)):=(New.refl wc).alloc _;have hm:cH (wc.alloc (.map #[] 0)) wc.heap.size 0 (fun _=>0):=cH.made wc;rw[sc] at hm;generalize(wc.alloc (.map #[] 0))=W0 at nd hm ⊢;have HX:=Lib.hid (Keeps.heap nd (Keeps.heap nc (Keeps.heap nb ha (fun h=>h)) (fun h=>h)) (fun h=>h));have H1:=Lib.hid (Keeps.heap nd (Keeps.heap nc hb (fun h=>h)) (fun h=>h));have H2:=Lib.hid (Keeps.heap nd hc (fun h=>h));have HM0:=Lib.hid hm;have hN:=((na.trans nb).trans nc).trans nd;obtain⟨M,hM⟩:∃M,M=w.heap.size+1+1+1:=⟨_,rfl⟩
 rw[<-hM] at HM0 ⊢;have HMM:=Lib.hid hM;have Ej:w.heap.size+1+1<M:=by omega
 clear na nb nc nd ha hb hc hm sa sb sc hM;go_loopw [5,21] (fun c j wr=>∃(k:Nat) (m:Nat),k<=s.items.length∧j= .int .i64 k∧c= .int .i64 m∧m<=k∧Hid (m=(ofK 1 (s.items.take k)).length∧cH wr M k (cv (s.items.take k))∧(∀j (hj:j<s.items.length),j<k->gZ s.items[j]=false)∧New w wr∧
   wr.heap[w.heap.size]? =some (.cells #[.string s.name,.slice si s.items.length s.ic] 52 (0,0))∧wr.heap[w.heap.size+1]? =some (.cells #[.string ⟨#[]⟩,.slice none 0 0,.slice none 0 0,.slice none 0 0,.slice none 0 0] 26 (0,0))∧wr.heap[w.heap.size+1+1]? =some (.cells #[I 0,I 0] 33 (0,0)))) (fun _ j _=>s.items.length-(intOf j).toNat)
 case atStart=>exact⟨0,0,by omega,rfl,rfl,by omega,Lib.hid ⟨rfl,HM0.out,fun j hj h=>by omega,hN,HX.out,H1.out,H2.out⟩⟩
 case round=>
  clear HX H1 H2 HM0 hN;obtain⟨k,m,hk,rfl,rfl,hmk,HR⟩:=hrel;obtain⟨hm1,hm2,hm3,hN,hx,h1,h2⟩:=HR.out;have HC:=Lib.hid hm1;have HM:=Lib.hid hm2;have HE:=Lib.hid hm3;have HX:=Lib.hid hx;have H1:=Lib.hid h1;have H2:=Lib.hid h2;clear HR hm1 hm2 hm3 hx h1 h2;by_cases hk1:k<s.items.length
  ·have hkI:(k:Int)<(s.items.length:Int):=by omega
   have hkd:decide (k<s.items.length)=true:=decide_eq_true hk1;obtain⟨b,off,hab,q0,q1,q2,q3,q4,q5,q6,q7,q8,q9,q10⟩:=eu (HS.out.new hN).sl hk1;have hbw:b<wr.heap.size:=World.block_lt_of_cell? wr _ q0;have e:si=some ⟨b,off,none⟩:=HSI.out.symm.trans hab;subst e;have hx0:=HKR.out _ (List.getElem_mem hk1);have hxn:=(HL.out.ix _ (List.getElem_mem hk1)).2.1;have HB:Hid (gZ s.items[k]=decide (s.items[k].kind<1∨4<s.items[k].kind)):=Lib.hid rfl;have HF:Hid (gZ s.items[k]=true->cx s=(1,s.items[k].at_)):=Lib.hid (fun h=>by unfold cx;rw[rE hk1 HE.out h]);have HE2:Hid (gZ s.items[k]=false->∀j (hj:j<s.items.length),j<k+1->gZ s.items[j]=false):=Lib.hid (fun h j hj hjk=>by
    by_cases e:j=k
    ·subst e;exact h
    ·exact HE.out j hj (by omega))
   have HT:=Lib.hid (l6 (kd:=1) hk1);have HV:=Lib.hid (fun t=>mG hk1 t);have hVb:=qO (s.items.take k) s.items[k].name;have hVl:(s.items.take k).length<=k:=by rw[List.length_take];omega
   clear hab HE;generalize s.items[k]=x at q0 q1 q2 q3 q4 q5 q6 q7 q8 q9 q10 hx0 hxn HB HF HE2 HT HV hVb;by_cases hb1:x.kind<1
   case pos=>
    have d1:decide (x.kind<1)=true:=decide_eq_true hb1;go_wp2_with fail;have kb:New wr (wr.alloc (.cells #[.int .u8 x.kind,.string x.name,.string x.tag,.slice x.a x.xs.length x.c,.string x.fn,I x.fp,I x.fa,.string x.tn,I x.tp,I x.ta,I x.at_] 105)):=(New.refl wr).alloc _;have hby:(wr.alloc (.cells #[.int .u8 x.kind,.string x.name,.string x.tag,.slice x.a x.xs.length x.c,.string x.fn,I x.fp,I x.fa,.string x.tn,I x.tp,I x.ta,I x.at_] 105)).heap[wr.heap.size]? =some (.cells #[.int .u8 x.kind,.string x.name,.string x.tag,.slice x.a x.xs.length x.c,.string x.fn,I x.fp,I x.fa,.string x.tn,I x.tp,I x.ta,I x.at_] 105 (0,0)):=heap_alloc_new wr _;generalize(wr.alloc (.cells #[.int .u8 x.kind,.string x.name,.string x.tag,.slice x.a x.xs.length x.c,.string x.fn,I x.fp,I x.fa,.string x.tn,I x.tp,I x.ta,I x.at_] 105))=w1 at kb hby ⊢;have Bi:w.heap.size+1+1<wr.heap.size:=(Array.getElem?_eq_some_iff.1 H2.out).1;generalize wr.heap.size=Y at hby Bi ⊢;clear q0 q1 q2 q3 q4 q5 q6 q7 q8 q9 q10 hbw;obtain⟨⟨-,-,-,-,-,-,-,-,-,-,y10⟩,hYl⟩:=fQ (x:=x) hby;have hdr:New w1 w1.drew:=(New.refl w1).drew;have hS0:(fun w':World=>w'.cell? ⟨Y,10,none⟩=some (I x.at_)∧Y<w'.heap.size) w1.drew:=⟨hdr.cell y10,hYl⟩
    clear y10 hYl;have HV2:=Lib.hid (HF.out (by rw[HB.out];exact decide_eq_true (by omega)));have G1:=Lib.hid (Keeps.heap hdr (Keeps.heap kb H1.out (fun h=>h)) (fun h=>h));have G2:=Lib.hid (Keeps.heap hdr (Keeps.heap kb H2.out (fun h=>h)) (fun h=>h));have hNN:=(hN.trans kb).trans hdr;clear HF HE2 HT HV HB hN kb hdr;refine aj (fun w':World=>w'.cell? ⟨Y,10,none⟩=some (I x.at_)∧Y<w'.heap.size) [5] (by kernel_rfl) hS0 ?_;generalize w1.drew=wd at hS0 G1 G2 hNN ⊢;refine ae 0 hS0 ?_;refine ae 1 hS0 ?_;refine ae 2 hS0 ?_;refine ae 3 hS0 ?_;obtain⟨g0,g1,g2,g3,g4,hGl⟩:=an G1.out;obtain⟨f0,f1,z0,z1,hFl⟩:=cf G2.out;have hGf:∀i,wd.frozen? ⟨w.heap.size+1,i,none⟩=false:=fun i=>unfrozen_of_block G1.out i
    have gz0:=hGf 0;have gz1:=hGf 1;have gz2:=hGf 2;have gz3:=hGf 3;have gz4:=hGf 4;clear hGf;refine ag 4 ?_;intro K hK;(try simp only[Act.put,sLs])
    go_simp;refine hK _ _ (fun _=>⟨(aW G1.out _ _ _ _ _).2.cell hS0.1 (show ¬Y=w.heap.size+1 by omega),Nat.lt_of_lt_of_le hS0.2 (aW G1.out _ _ _ _ _).2.size⟩) ?_;clear hK K;refine ag 5 ?_;intro K hK;(try simp only[Act.put,sLs])
    go_simp;refine hK _ _ (fun hx=>by cases hx) ?_;clear hK K;refine av (by kernel_rfl) ?_;(try simp only[Act.put,sLs])
    (try simp only[Exit.then])
    have HPP:Hid (∀W',New w W'->post (.returned (.tuple #[.agg #[.string ⟨#[]⟩,.slice none 0 0,.slice none 0 0,.slice none 0 0,.slice none 0 0],.agg #[I 1,I x.at_]])) W'):=Lib.hid (fun W' kW=>by
     rw[<-HP.out];unfold nN;rw[HV2.out,if_pos (show(1:Int)≠0 by decide)];exact⟨rfl,kW⟩)
    go_wp2_with fail;clear g0 g1 g2 g3 g4 f0 f1 z0 z1 gz0 gz1 gz2 gz3 gz4 hFl hGl;generalize hW9:(((((((wd.setCell ⟨w.heap.size+1,0,none⟩ (.string ⟨#[]⟩)).setCell ⟨w.heap.size+1,1,none⟩ (.slice none 0 0)).setCell ⟨w.heap.size+1,2,none⟩ (.slice none 0 0)).setCell ⟨w.heap.size+1,3,none⟩ (.slice none 0 0)).setCell ⟨w.heap.size+1,4,none⟩ (.slice none 0 0)).setCell ⟨w.heap.size+1+1,0,none⟩ (I 1)).setCell ⟨w.heap.size+1+1,1,none⟩ (I x.at_))=W9;obtain⟨⟨⟨c0,c1,c2,c3,c4,hGl⟩,e0,e1,hFl⟩,k9⟩:=ci G1.out G2.out hW9;clear hW9;exact bodyPost_ret (v:= .tuple #[.agg #[.string ⟨#[]⟩,.slice none 0 0,.slice none 0 0,.slice none 0 0,.slice none 0 0],.agg #[I 1,I x.at_]]) (by simp[results,Tryz.results24,go_sem,c0,c1,c2,c3,c4,e0,e1,hGl,hFl]) rfl (HPP.out _ (New.keeps hNN k9 (fun i hi h=>by omega)))
   have d1:decide (x.kind<1)=false:=decide_eq_false hb1;by_cases hb2:4<x.kind
   case pos=>
    have d2:decide (4<x.kind)=true:=decide_eq_true hb2;go_wp2_with fail;have kb:New wr (wr.alloc (.cells #[.int .u8 x.kind,.string x.name,.string x.tag,.slice x.a x.xs.length x.c,.string x.fn,I x.fp,I x.fa,.string x.tn,I x.tp,I x.ta,I x.at_] 105)):=(New.refl wr).alloc _;have hby:(wr.alloc (.cells #[.int .u8 x.kind,.string x.name,.string x.tag,.slice x.a x.xs.length x.c,.string x.fn,I x.fp,I x.fa,.string x.tn,I x.tp,I x.ta,I x.at_] 105)).heap[wr.heap.size]? =some (.cells #[.int .u8 x.kind,.string x.name,.string x.tag,.slice x.a x.xs.length x.c,.string x.fn,I x.fp,I x.fa,.string x.tn,I x.tp,I x.ta,I x.at_] 105 (0,0)):=heap_alloc_new wr _;generalize(wr.alloc (.cells #[.int .u8 x.kind,.string x.name,.string x.tag,.slice x.a x.xs.length x.c,.string x.fn,I x.fp,I x.fa,.string x.tn,I x.tp,I x.ta,I x.at_] 105))=w1 at kb hby ⊢;have Bi:w.heap.size+1+1<wr.heap.size:=(Array.getElem?_eq_some_iff.1 H2.out).1;generalize wr.heap.size=Y at hby Bi ⊢;clear q0 q1 q2 q3 q4 q5 q6 q7 q8 q9 q10 hbw;obtain⟨⟨-,-,-,-,-,-,-,-,-,-,y10⟩,hYl⟩:=fQ (x:=x) hby;have hdr:New w1 w1.drew:=(New.refl w1).drew;have hS0:(fun w':World=>w'.cell? ⟨Y,10,none⟩=some (I x.at_)∧Y<w'.heap.size) w1.drew:=⟨hdr.cell y10,hYl⟩
    clear y10 hYl;have HV2:=Lib.hid (HF.out (by rw[HB.out];exact decide_eq_true (by omega)));have G1:=Lib.hid (Keeps.heap hdr (Keeps.heap kb H1.out (fun h=>h)) (fun h=>h));have G2:=Lib.hid (Keeps.heap hdr (Keeps.heap kb H2.out (fun h=>h)) (fun h=>h));have hNN:=(hN.trans kb).trans hdr;clear HF HE2 HT HV HB hN kb hdr;refine aj (fun w':World=>w'.cell? ⟨Y,10,none⟩=some (I x.at_)∧Y<w'.heap.size) [5] (by kernel_rfl) hS0 ?_;generalize w1.drew=wd at hS0 G1 G2 hNN ⊢;refine ae 0 hS0 ?_;refine ae 1 hS0 ?_;refine ae 2 hS0 ?_;refine ae 3 hS0 ?_;obtain⟨g0,g1,g2,g3,g4,hGl⟩:=an G1.out;obtain⟨f0,f1,z0,z1,hFl⟩:=cf G2.out;have hGf:∀i,wd.frozen? ⟨w.heap.size+1,i,none⟩=false:=fun i=>unfrozen_of_block G1.out i
    have gz0:=hGf 0;have gz1:=hGf 1;have gz2:=hGf 2;have gz3:=hGf 3;have gz4:=hGf 4;clear hGf;refine ag 4 ?_;intro K hK;(try simp only[Act.put,sLs])
    go_simp;refine hK _ _ (fun _=>⟨(aW G1.out _ _ _ _ _).2.cell hS0.1 (show ¬Y=w.heap.size+1 by omega),Nat.lt_of_lt_of_le hS0.2 (aW G1.out _ _ _ _ _).2.size⟩) ?_;clear hK K;refine ag 5 ?_;intro K hK;(try simp only[Act.put,sLs])
    go_simp;refine hK _ _ (fun hx=>by cases hx) ?_;clear hK K;refine av (by kernel_rfl) ?_;(try simp only[Act.put,sLs])
    (try simp only[Exit.then])
    have HPP:Hid (∀W',New w W'->post (.returned (.tuple #[.agg #[.string ⟨#[]⟩,.slice none 0 0,.slice none 0 0,.slice none 0 0,.slice none 0 0],.agg #[I 1,I x.at_]])) W'):=Lib.hid (fun W' kW=>by
     rw[<-HP.out];unfold nN;rw[HV2.out,if_pos (show(1:Int)≠0 by decide)];exact⟨rfl,kW⟩)
    go_wp2_with fail;clear g0 g1 g2 g3 g4 f0 f1 z0 z1 gz0 gz1 gz2 gz3 gz4 hFl hGl;generalize hW9:(((((((wd.setCell ⟨w.heap.size+1,0,none⟩ (.string ⟨#[]⟩)).setCell ⟨w.heap.size+1,1,none⟩ (.slice none 0 0)).setCell ⟨w.heap.size+1,2,none⟩ (.slice none 0 0)).setCell ⟨w.heap.size+1,3,none⟩ (.slice none 0 0)).setCell ⟨w.heap.size+1,4,none⟩ (.slice none 0 0)).setCell ⟨w.heap.size+1+1,0,none⟩ (I 1)).setCell ⟨w.heap.size+1+1,1,none⟩ (I x.at_))=W9;obtain⟨⟨⟨c0,c1,c2,c3,c4,hGl⟩,e0,e1,hFl⟩,k9⟩:=ci G1.out G2.out hW9;clear hW9;exact bodyPost_ret (v:= .tuple #[.agg #[.string ⟨#[]⟩,.slice none 0 0,.slice none 0 0,.slice none 0 0,.slice none 0 0],.agg #[I 1,I x.at_]]) (by simp[results,Tryz.results24,go_sem,c0,c1,c2,c3,c4,e0,e1,hGl,hFl]) rfl (HPP.out _ (New.keeps hNN k9 (fun i hi h=>by omega)))
   have d2:decide (4<x.kind)=false:=decide_eq_false hb2;have HE3:=Lib.hid (HE2.out (by rw[HB.out];exact decide_eq_false (by omega)));clear HE2 HF HB;by_cases hk9:x.kind=1
   case neg=>
    have d3:(x.kind==1)=false:=by simp[hk9]
    have HT2:Hid (m=(ofK 1 (s.items.take (k+1))).length):=Lib.hid (by rw[HT.out,if_neg hk9,<-HC.out]);have HM2:Hid (cH wr M (k+1) (cv (s.items.take (k+1)))):=Lib.hid (by
     obtain⟨D,h1,h2⟩:=HM.out;exact⟨D,h1.mono (by omega),fun t=>by rw[h2,HV.out,if_neg hk9]⟩)
    clear HT HV HM HC hk9;go_wp2_with fail;go_roundw
    case rel=>exact⟨k+1,m,by omega,by go_num,rfl,by omega,Lib.hid ⟨HT2.out,HM2.out.new ((New.refl wr).alloc _),HE3.out,hN.alloc _,Keeps.heap (Keeps.alloc (S:=fun _=>False) _ _) HX.out (fun h=>h),Keeps.heap (Keeps.alloc (S:=fun _=>False) _ _) H1.out (fun h=>h),Keeps.heap (Keeps.alloc (S:=fun _=>False) _ _) H2.out (fun h=>h)⟩⟩
    case measure=>simp[intOf];omega
   have d3:(x.kind==1)=true:=by simp[hk9]
   have HT2:Hid (m+1=(ofK 1 (s.items.take (k+1))).length):=Lib.hid (by rw[HT.out,if_pos hk9,List.length_append,<-HC.out];rfl);have ka:New wr (wr.alloc (.cells #[.int .u8 x.kind,.string x.name,.string x.tag,.slice x.a x.xs.length x.c,.string x.fn,I x.fp,I x.fa,.string x.tn,I x.tp,I x.ta,I x.at_] 105)):=(New.refl wr).alloc _;have hma:Hid (cH (wr.alloc (.cells #[.int .u8 x.kind,.string x.name,.string x.tag,.slice x.a x.xs.length x.c,.string x.fn,I x.fp,I x.fa,.string x.tn,I x.tp,I x.ta,I x.at_] 105)) M k (cv (s.items.take k))):=Lib.hid (HM.out.new ka);have hr:=bj x.name hma.out hxn;by_cases hv0:cv (s.items.take k) x.name=0
   case neg=>
    have d4:(cv (s.items.take k) x.name==0)=false:=by simp[hv0]
    have HM2:Hid (cH wr M (k+1) (cv (s.items.take (k+1)))):=Lib.hid (by
     obtain⟨D,h1,h2⟩:=HM.out;refine⟨D,h1.mono (by omega),fun t=>?_⟩;rw[h2,HV.out,if_pos hk9];by_cases hz:cv (s.items.take k) t=0∧t=x.name
     ·obtain⟨z1,rfl⟩:=hz;exact absurd z1 hv0
     ·rw[if_neg hz])
    generalize cv (s.items.take k) x.name=vv at hr d4 hVb;clear HT HV HM HC hk9 hv0;go_wp2_with fail;go_roundw
    case rel=>exact⟨k+1,m+1,by omega,by go_num,by go_num,by omega,Lib.hid ⟨HT2.out,HM2.out.new ((New.refl wr).alloc _),HE3.out,hN.alloc _,Keeps.heap (Keeps.alloc (S:=fun _=>False) _ _) HX.out (fun h=>h),Keeps.heap (Keeps.alloc (S:=fun _=>False) _ _) H1.out (fun h=>h),Keeps.heap (Keeps.alloc (S:=fun _=>False) _ _) H2.out (fun h=>h)⟩⟩
    case measure=>simp[intOf];omega
   rw[hv0] at hr;have HM2:Hid (∀W,cH W M (k+1) (fun t=>if t=x.name then(m:Int)+1 else cv (s.items.take k) t)->cH W M (k+1) (cv (s.items.take (k+1)))):=Lib.hid (fun W h=>h.as (fun t=>by
    rw[HV.out,if_pos hk9];by_cases e:t=x.name
    ·subst e;rw[if_pos rfl,if_pos ⟨hv0,rfl⟩,<-HC.out]
    ·rw[if_neg e,if_neg (fun h=>e h.2)]))
   have hMM:=Lib.hid (show ∀(b:Nat) (cs:Array Value) (t:TypeId),wr.heap[b]? =some (.cells cs t (0,0))->¬b=M from by
    rintro b cs t hb rfl;obtain⟨es,iW,hM⟩:=HM.out.block;rw[hb] at hM;cases hM)
   have HMw:Hid (w.heap.size<=M):=Lib.hid (by omega);have hmI:(m:Int)+1<=9223372036854775807:=by omega
   clear HT HV hk9 hv0 HC;go_wp2_with (at_mapUpdate;refine nr rfl _ _ _ rfl rfl rfl rfl hma.out hxn (by omega) (WalkArith.wf_i64 (by omega)) ?_);intro w3 hm3 k3;have hk3:Keeps (fun k=>k=M) wr w3:=(Keeps.mono ka (fun _ _ h=>h.elim)).trans k3 (fun _ _ h=>h);have HG3:Hid (cH w3 M (k+1) (cv (s.items.take (k+1)))∧New w w3∧w3.heap[w.heap.size]? =some (.cells #[.string s.name,.slice (some ⟨b,off,none⟩) s.items.length s.ic] 52 (0,0))∧w3.heap[w.heap.size+1]? =some (.cells #[.string ⟨#[]⟩,.slice none 0 0,.slice none 0 0,.slice none 0 0,.slice none 0 0] 26 (0,0))∧w3.heap[w.heap.size+1+1]? =some (.cells #[I 0,I 0] 33 (0,0))):=
    Lib.hid ⟨HM2.out _ hm3,New.keeps hN hk3 (fun i hi e=>by have:=HMw.out;omega),hk3.heap HX.out (hMM.out _ _ _ HX.out),hk3.heap H1.out (hMM.out _ _ _ H1.out),hk3.heap H2.out (hMM.out _ _ _ H2.out)⟩
   clear hr hma HM2 hMM hm3 k3 hk3 ka HX H1 H2 hN HM;go_wp2_with fail;go_roundw
   case rel=>exact⟨k+1,m+1,by omega,by go_num,by go_num,by omega,Lib.hid ⟨HT2.out,HG3.out.1,HE3.out,HG3.out.2⟩⟩
   case measure=>simp[intOf];omega
  ·have hke:k=s.items.length:=by omega
   have hkd:decide (k<s.items.length)=false:=decide_eq_false hk1;have HFN:=Lib.hid (jW HE.out hke);rw[hke,List.take_length] at HM;clear HC HE hke hk hk1 hmk;obtain⟨p0,p1,-,-,hPl⟩:=cR HX.out;go_wp2_with fail;have ks:New wr (wr.alloc (.cells #[.string s.name,.slice none 0 0,.slice none 0 0,.slice none 0 0,.slice none 0 0] 26)):=(New.refl wr).alloc _;have hp:(wr.alloc (.cells #[.string s.name,.slice none 0 0,.slice none 0 0,.slice none 0 0,.slice none 0 0] 26)).heap[wr.heap.size]? =some (.cells #[.string s.name,.slice none 0 0,.slice none 0 0,.slice none 0 0,.slice none 0 0] 26 (0,0)):=heap_alloc_new wr _;have Bg:w.heap.size+1+1<wr.heap.size:=(Array.getElem?_eq_some_iff.1 H2.out).1;generalize(wr.alloc (.cells #[.string s.name,.slice none 0 0,.slice none 0 0,.slice none 0 0,.slice none 0 0] 26))=W2 at ks hp ⊢;generalize wr.heap.size=P at hp Bg ⊢;rw[<-HSI.out] at HX;have HD:Hid (BAt w s P M s.items.length (s.items.take 0) ⟨s.name,none,0,[],none,0,[],none,0,[],none,0,[]⟩ W2):=Lib.hid ⟨⟨hp,⟨World.ownsRow_nil _ _ _ _,World.ownsRow_nil _ _ _ _,World.ownsRow_nil _ _ _ _,World.ownsRow_nil _ _ _ _,(fun x hx=>by cases hx),(fun x hx=>by cases hx),List.Pairwise.nil,(fun k hk=>by obtain⟨y,hy,_⟩:=hk;cases hy)⟩⟩,rfl,HM.out.new ks,hN.trans ks,Keeps.heap ks HX.out (fun h=>h),Keeps.heap ks H1.out (fun h=>h),Keeps.heap ks H2.out (fun h=>h),Bg⟩;clear ks hp HX H1 H2 HM hN p0 p1 hPl Bg;go_loopw [58] (fun j wr=>∃(k:Nat) (q:Gr),k<=s.items.length∧j= .int .i64 k∧Hid (BAt w s P M s.items.length (s.items.take k) q wr)) (fun j _=>s.items.length-(intOf j).toNat)
   case atStart=>exact⟨0,⟨s.name,none,0,[],none,0,[],none,0,[],none,0,[]⟩,by omega,rfl,HD⟩
   case round=>
    clear HD;obtain⟨k,q,hk,rfl,HD⟩:=hrel;by_cases hk1:k<s.items.length
    ·have hkI:(k:Int)<(s.items.length:Int):=by omega
     have hkd:decide (k<s.items.length)=true:=decide_eq_true hk1;obtain⟨b,off,hab,q0,q1,q2,q3,q4,q5,q6,q7,q8,q9,q10⟩:=eu (HS.out.new HD.out.nw).sl hk1;have hbw:b<wr.heap.size:=World.block_lt_of_cell? wr _ q0;have e:si=some ⟨b,off,none⟩:=HSI.out.symm.trans hab;subst e;have hxl:=HL.out.ix _ (List.getElem_mem hk1);have jN:=HNZ.out _ (List.getElem_mem hk1);have ou:1<=s.items[k].kind∧s.items[k].kind<=4:=by
      have h:=List.find?_eq_none.1 HFN.out _ (List.getElem_mem hk1);unfold gZ at h;simp at h;omega
     have HXS:=fun W (n:New wr W)=>((HS.out.new HD.out.nw).nx _ (List.getElem_mem hk1)).new n
     have HTK:Hid (s.items.take (k+1)=s.items.take k++[s.items[k]]):=Lib.hid (List.take_succ_eq_append_getElem hk1);have hvf:=qO s.items s.items[k].fn;have hvt:=qO s.items s.items[k].tn;have htl:(s.items.take k).length<=k:=by rw[List.length_take];omega
     have hqa:=uO HD.out.ba;have hqe:=rV HD.out.ba;have hqi:=yK HD.out.ba;have hqo:=uP HD.out.ba;clear hab;generalize s.items[k]=x at q0 q1 q2 q3 q4 q5 q6 q7 q8 q9 q10 hxl jN ou HXS HTK hvf hvt;obtain⟨hx1,hx2,hx3,hx4,hx5⟩:=hxl;obtain⟨vf,tD⟩:∃v,cv s.items x.fn=v:=⟨_,rfl⟩
     obtain⟨vt,tE⟩:∃v,cv s.items x.tn=v:=⟨_,rfl⟩
     rw[tD] at hvf;rw[tE] at hvt;have HVF:=Lib.hid tD;have HVT:=Lib.hid tE;have wf1:IntKind.i64.wrap (vf-1)=vf-1:=IntWalk.i64_in _ (by omega);have wt1:IntKind.i64.wrap (vt-1)=vt-1:=IntWalk.i64_in _ (by omega);clear tD tE;go_wp2_with fail;have kb:New wr (wr.alloc (.cells #[.int .u8 x.kind,.string x.name,.string x.tag,.slice x.a x.xs.length x.c,.string x.fn,I x.fp,I x.fa,.string x.tn,I x.tp,I x.ta,I x.at_] 105)):=(New.refl wr).alloc _;have hby:(wr.alloc (.cells #[.int .u8 x.kind,.string x.name,.string x.tag,.slice x.a x.xs.length x.c,.string x.fn,I x.fp,I x.fa,.string x.tn,I x.tp,I x.ta,I x.at_] 105)).heap[wr.heap.size]? =some (.cells #[.int .u8 x.kind,.string x.name,.string x.tag,.slice x.a x.xs.length x.c,.string x.fn,I x.fp,I x.fa,.string x.tn,I x.tp,I x.ta,I x.at_] 105 (0,0)):=heap_alloc_new wr _;generalize(wr.alloc (.cells #[.int .u8 x.kind,.string x.name,.string x.tag,.slice x.a x.xs.length x.c,.string x.fn,I x.fp,I x.fa,.string x.tn,I x.tp,I x.ta,I x.at_] 105))=w1 at kb hby ⊢;generalize wr.heap.size=Y at hby ⊢;replace HD:=Lib.hid (HD.out.new kb);have HY:=Lib.hid hby;have kb0:=kb;have hdr:=(New.refl w1).drew;obtain⟨⟨-,-,-,-,y4,-,-,y7,-,-,-⟩,hYl⟩:=fQ (x:=x) hby;have hS0:(fun w':World=>cH w' M s.items.length (cv s.items)∧w'.cell? ⟨Y,4,none⟩=some (.string x.fn)∧w'.cell? ⟨Y,7,none⟩=some (.string x.tn)∧Y<w'.heap.size) w1.drew:=⟨HD.out.mp.new hdr,hdr.cell y4,hdr.cell y7,hYl⟩
     clear q0 q1 q2 q3 q4 q5 q6 q7 q8 q9 q10 hbw hby kb y4 y7 hYl;refine aj (fun w':World=>cH w' M s.items.length (cv s.items)∧w'.cell? ⟨Y,4,none⟩=some (.string x.fn)∧w'.cell? ⟨Y,7,none⟩=some (.string x.tn)∧Y<w'.heap.size) [] (by kernel_rfl) hS0 ?_;replace HD:=Lib.hid (HD.out.new hdr);replace HY:=Lib.hid (Keeps.heap hdr HY.out (fun h=>h));replace kb0:=kb0.trans hdr;clear hdr;generalize w1.drew=w2 at hS0 HD HY kb0 ⊢;refine aS 0 (by kernel_rfl) (by kernel_rfl) (by kernel_rfl) (by kernel_rfl) (by kernel_rfl) hS0 ?_;intro oi ho;simp only[sLq] at ho;subst ho;refine⟨?_,fun _ _ _ h=>h,Or.inl ⟨by rfl,?_⟩,?_⟩;rotate_left 1
     ·(intro wS hSw;have hr1:=bj x.fn hSw.1 hx4;have hr2:=bj x.tn hSw.1 hx5;rw[HVF.out] at hr1;rw[HVT.out] at hr2;(try dsimp only at hSw);go_simp;try with_reducible rfl)
     simp only[Act.put,sLs];refine aS 1 (by kernel_rfl) (by kernel_rfl) (by kernel_rfl) (by kernel_rfl) (by kernel_rfl) hS0 ?_;intro oi ho;simp only[sLq] at ho;subst ho;refine⟨?_,fun _ _ _ h=>h,Or.inl ⟨by rfl,?_⟩,?_⟩;rotate_left 1
     ·(intro wS hSw;have hr1:=bj x.fn hSw.1 hx4;have hr2:=bj x.tn hSw.1 hx5;rw[HVF.out] at hr1;rw[HVT.out] at hr2;(try dsimp only at hSw);go_simp;try with_reducible rfl)
     simp only[Act.put,sLs];refine aS 2 (by kernel_rfl) (by kernel_rfl) (by kernel_rfl) (by kernel_rfl) (by kernel_rfl) hS0 ?_;intro oi ho;simp only[sLq] at ho;subst ho;refine⟨?_,fun _ _ _ h=>h,Or.inl ⟨by rfl,?_⟩,?_⟩;rotate_left 1
     ·(intro wS hSw;have hr1:=bj x.fn hSw.1 hx4;have hr2:=bj x.tn hSw.1 hx5;rw[HVF.out] at hr1;rw[HVT.out] at hr2;(try dsimp only at hSw);go_simp;try with_reducible rfl)
     simp only[Act.put,sLs];refine aS 3 (by kernel_rfl) (by kernel_rfl) (by kernel_rfl) (by kernel_rfl) (by kernel_rfl) hS0 ?_;intro oi ho;simp only[sLq] at ho;subst ho;refine⟨?_,fun _ _ _ h=>h,Or.inl ⟨by rfl,?_⟩,?_⟩;rotate_left 1
     ·(intro wS hSw;have hr1:=bj x.fn hSw.1 hx4;have hr2:=bj x.tn hSw.1 hx5;rw[HVF.out] at hr1;rw[HVT.out] at hr2;(try dsimp only at hSw);go_simp;try with_reducible rfl)
     simp only[Act.put,sLs];refine aS 4 (by kernel_rfl) (by kernel_rfl) (by kernel_rfl) (by kernel_rfl) (by kernel_rfl) hS0 ?_;intro oi ho;simp only[sLq] at ho;subst ho;refine⟨?_,fun _ _ _ h=>h,Or.inl ⟨by rfl,?_⟩,?_⟩;rotate_left 1
     ·(intro wS hSw;have hr1:=bj x.fn hSw.1 hx4;have hr2:=bj x.tn hSw.1 hx5;rw[HVF.out] at hr1;rw[HVT.out] at hr2;(try dsimp only at hSw);go_simp;try with_reducible rfl)
     simp only[Act.put,sLs];refine aS 5 (by kernel_rfl) (by kernel_rfl) (by kernel_rfl) (by kernel_rfl) (by kernel_rfl) hS0 ?_;intro oi ho;simp only[sLq] at ho;subst ho;refine⟨?_,fun _ _ _ h=>h,Or.inl ⟨by rfl,?_⟩,?_⟩;rotate_left 1
     ·(intro wS hSw;have hr1:=bj x.fn hSw.1 hx4;have hr2:=bj x.tn hSw.1 hx5;rw[HVF.out] at hr1;rw[HVT.out] at hr2;(try dsimp only at hSw);go_simp;try with_reducible rfl)
     simp only[Act.put,sLs];refine aS 6 (by kernel_rfl) (by kernel_rfl) (by kernel_rfl) (by kernel_rfl) (by kernel_rfl) hS0 ?_;intro oi ho;simp only[sLq] at ho;subst ho;refine⟨?_,fun _ _ _ h=>h,Or.inl ⟨by rfl,?_⟩,?_⟩;rotate_left 1
     ·(intro wS hSw;have hr1:=bj x.fn hSw.1 hx4;have hr2:=bj x.tn hSw.1 hx5;rw[HVF.out] at hr1;rw[HVT.out] at hr2;(try dsimp only at hSw);go_simp;try with_reducible rfl)
     simp only[Act.put,sLs];refine aS 7 (by kernel_rfl) (by kernel_rfl) (by kernel_rfl) (by kernel_rfl) (by kernel_rfl) hS0 ?_;intro oi ho;simp only[sLq] at ho;subst ho;refine⟨?_,fun _ _ _ h=>h,Or.inl ⟨by rfl,?_⟩,?_⟩;rotate_left 1
     ·(intro wS hSw;have hr1:=bj x.fn hSw.1 hx4;have hr2:=bj x.tn hSw.1 hx5;rw[HVF.out] at hr1;rw[HVT.out] at hr2;(try dsimp only at hSw);go_simp;try with_reducible rfl)
     simp only[Act.put,sLs];refine aS 8 (by kernel_rfl) (by kernel_rfl) (by kernel_rfl) (by kernel_rfl) (by kernel_rfl) hS0 ?_;intro oi ho;simp only[sLq] at ho;subst ho;refine⟨?_,fun _ _ _ h=>h,Or.inl ⟨by rfl,?_⟩,?_⟩;rotate_left 1
     ·(intro wS hSw;have hr1:=bj x.fn hSw.1 hx4;have hr2:=bj x.tn hSw.1 hx5;rw[HVF.out] at hr1;rw[HVT.out] at hr2;(try dsimp only at hSw);go_simp;try with_reducible rfl)
     simp only[Act.put,sLs];refine aS 9 (by kernel_rfl) (by kernel_rfl) (by kernel_rfl) (by kernel_rfl) (by kernel_rfl) hS0 ?_;intro oi ho;simp only[sLq] at ho;subst ho;refine⟨?_,fun _ _ _ h=>h,Or.inl ⟨by rfl,?_⟩,?_⟩;rotate_left 1
     ·(intro wS hSw;have hr1:=bj x.fn hSw.1 hx4;have hr2:=bj x.tn hSw.1 hx5;rw[HVF.out] at hr1;rw[HVT.out] at hr2;(try dsimp only at hSw);go_simp;try with_reducible rfl)
     simp only[Act.put,sLs];refine aS 10 (by kernel_rfl) (by kernel_rfl) (by kernel_rfl) (by kernel_rfl) (by kernel_rfl) hS0 ?_;intro oi ho;simp only[sLq] at ho;subst ho;refine⟨?_,fun _ _ _ h=>h,Or.inl ⟨by rfl,?_⟩,?_⟩;rotate_left 1
     ·(intro wS hSw;have hr1:=bj x.fn hSw.1 hx4;have hr2:=bj x.tn hSw.1 hx5;rw[HVF.out] at hr1;rw[HVT.out] at hr2;(try dsimp only at hSw);go_simp;try with_reducible rfl)
     simp only[Act.put,sLs];refine aS 11 (by kernel_rfl) (by kernel_rfl) (by kernel_rfl) (by kernel_rfl) (by kernel_rfl) hS0 ?_;intro oi ho;simp only[sLq] at ho;subst ho;refine⟨?_,fun _ _ _ h=>h,Or.inl ⟨by rfl,?_⟩,?_⟩;rotate_left 1
     ·(intro wS hSw;have hr1:=bj x.fn hSw.1 hx4;have hr2:=bj x.tn hSw.1 hx5;rw[HVF.out] at hr1;rw[HVT.out] at hr2;(try dsimp only at hSw);go_simp;try with_reducible rfl)
     simp only[Act.put,sLs];refine aS 12 (by kernel_rfl) (by kernel_rfl) (by kernel_rfl) (by kernel_rfl) (by kernel_rfl) hS0 ?_;intro oi ho;simp only[sLq] at ho;subst ho;refine⟨?_,fun _ _ _ h=>h,Or.inl ⟨by rfl,?_⟩,?_⟩;rotate_left 1
     ·(intro wS hSw;have hr1:=bj x.fn hSw.1 hx4;have hr2:=bj x.tn hSw.1 hx5;rw[HVF.out] at hr1;rw[HVT.out] at hr2;(try dsimp only at hSw);go_simp;try with_reducible rfl)
     simp only[Act.put,sLs];refine aS 13 (by kernel_rfl) (by kernel_rfl) (by kernel_rfl) (by kernel_rfl) (by kernel_rfl) hS0 ?_;intro oi ho;simp only[sLq] at ho;subst ho;refine⟨?_,fun _ _ _ h=>h,Or.inl ⟨by rfl,?_⟩,?_⟩;rotate_left 1
     ·(intro wS hSw;have hr1:=bj x.fn hSw.1 hx4;have hr2:=bj x.tn hSw.1 hx5;rw[HVF.out] at hr1;rw[HVT.out] at hr2;(try dsimp only at hSw);go_simp;try with_reducible rfl)
     simp only[Act.put,sLs];refine av (by kernel_rfl) ?_;(try simp only[Act.put,sLs])
     (try simp only[Exit.then])
     clear hS0 wf1 wt1;by_cases hkk:x.kind=1
     case pos=>
      have d1:(x.kind==1)=true:=by simp[hkk]
      obtain⟨⟨-,-,-,-,-,-,-,-,-,-,-⟩,hYl⟩:=fQ (x:=x) HY.out;obtain⟨⟨y0,y1,y2,y3,y4,y5,y6,y7,y8,y9,y10⟩,-⟩:=fQ (x:=x) HY.out;generalize htg:rc x.tag=tg;have HTG:=Lib.hid htg;clear htg;go_wp2_with fail;refine(wO x.tag w2).mono ?_;rintro e w3 ⟨rfl,k3⟩;rw[HTG.out];replace HD:=Lib.hid (HD.out.new k3);replace HY:=Lib.hid (Keeps.heap k3 HY.out (fun h=>h));replace kb0:=kb0.trans k3;clear k3 y0 y1 y2 y3 y4 y5 y6 y7 y8 y9 y10 hYl;go_wp2_with fail;obtain⟨g0,g1,g2,g3,g4,hPl⟩:=an HD.out.gr.blkP;have hYl:Y<w3.heap.size:=(Array.getElem?_eq_some_iff.1 HY.out).1;have hdr:New w3 w3.drew:=(New.refl w3).drew;have HSn:∀V,New w3 V->(fun w':World=>w'.cell? ⟨P,1,none⟩=some (.slice q.aa q.acts.length q.ac)∧P<w'.heap.size∧Y<w'.heap.size∧w'.cell? ⟨Y,1,none⟩=some (.string x.name)∧w'.cell? ⟨Y,3,none⟩=some (.slice x.a x.xs.length x.c)) V:=fun V kv=>⟨kv.cell g1,Nat.lt_of_lt_of_le hPl kv.size,Nat.lt_of_lt_of_le hYl kv.size,by rw[cell_of_block (Keeps.heap kv HY.out (fun h=>h)) 1];rfl,by rw[cell_of_block (Keeps.heap kv HY.out (fun h=>h)) 3];rfl⟩
      have hS0:=HSn _ hdr;clear g0 g1 g2 g3 g4 hPl hYl;refine aj (fun w':World=>w'.cell? ⟨P,1,none⟩=some (.slice q.aa q.acts.length q.ac)∧P<w'.heap.size∧Y<w'.heap.size∧w'.cell? ⟨Y,1,none⟩=some (.string x.name)∧w'.cell? ⟨Y,3,none⟩=some (.slice x.a x.xs.length x.c)) [10,11,12] (by kernel_rfl) hS0 ?_;refine ae 0 hS0 ?_;refine ae 1 hS0 ?_;refine ae 2 hS0 ?_;refine ae 3 hS0 ?_;refine ae 4 hS0 ?_;refine ae 5 hS0 ?_;refine ae 6 hS0 ?_;refine ag 7 ?_;intro K hK;(try simp only[Act.put,sLs])
      go_simp;refine(iH w3.drew x.a x.c x.xs (HXS _ (kb0.trans hdr)) jN).mono ?_;rintro e V1 ⟨a9,c9,rfl,ho9,kc1⟩;have kd1:=hdr.trans kc1;have hS1:=HSn _ kd1;refine hK _ _ (fun _=>hS1) ?_;clear hK K;refine ae 8 hS1 ?_;refine ag 9 ?_;intro K hK;(try simp only[Act.put,sLs])
      go_simp;have kl:New V1 (V1.alloc (.cells #[.string x.name,.int .u8 tg.1,.slice a9 x.xs.length c9] 63)):=(New.refl V1).alloc _;have bi:ar (V1.alloc (.cells #[.string x.name,.int .u8 tg.1,.slice a9 x.xs.length c9] 63)) (some ⟨V1.heap.size,0,none⟩) (ct (⟨x.name,tg.1,a9,c9,x.xs⟩:GAct)):=ar.lit V1 _ _;have kz:=kd1.trans kl;have hxo:bc (V1.alloc (.cells #[.string x.name,.int .u8 tg.1,.slice a9 x.xs.length c9] 63)) w.heap.size ((⟨x.name,tg.1,a9,c9,x.xs⟩:GAct)).a ((⟨x.name,tg.1,a9,c9,x.xs⟩:GAct)).c ((⟨x.name,tg.1,a9,c9,x.xs⟩:GAct)).xs:=ownsRow_le (ho9.new kl) (Nat.le_trans HD.out.nw.size hdr.size);have hxd:∀k,blk ((⟨x.name,tg.1,a9,c9,x.xs⟩:GAct)).a k->w3.heap.size<=k:=fun k hk=>Nat.le_trans hdr.size (ai ho9 hk).1
      refine hK _ _ (fun _=>HSn _ kz) ?_;clear hK K;generalize(V1.alloc (.cells #[.string x.name,.int .u8 tg.1,.slice a9 x.xs.length c9] 63))=VZ at kl bi kz hxo ⊢;generalize V1.heap.size=Z at bi ⊢;refine ag 10 ?_;intro K hK;refine cS rfl _ _ 22 rfl w.heap.size 63 it1 _ 3 48 Tryz.underlying22 Bo ha0 ha1 ha2 rfl (by decide) q.aa q.acts.length q.ac (q.acts.flatMap ct) rfl (HD.out.new kz).gr.own.ao (some ⟨Z,0,none⟩) 1 1 (ct (⟨x.name,tg.1,a9,c9,x.xs⟩:GAct)) rfl rfl bi (uV _) (by unfold maxLen;omega) (by omega) (Nat.le_trans HD.out.nw.size kz.size) ?_;intro ao' c' wc az hk' hmv;obtain⟨⟨hv0,hfz,lS⟩,hDn⟩:=HD.out.addAct x hkk (⟨x.name,tg.1,a9,c9,x.xs⟩:GAct) hxo hxd (by unfold oC;rw[HTG.out];rfl) kz az hk' hmv;rw[<-HTK.out] at hDn;have HDn:=Lib.hid hDn;refine hK _ _ (fun hx=>by cases hx) ?_;clear hK K hDn az hk' hmv;refine ag 11 ?_;intro K hK;(try simp only[Act.put,sLs])
      go_simp;refine hK _ _ (fun hx=>by cases hx) ?_;clear hK K;refine ag 12 ?_;intro K hK;(try simp only[Act.put,sLs])
      go_simp;refine hK _ _ (fun hx=>by cases hx) ?_;clear hK K;refine av (by kernel_rfl) ?_;(try simp only[Act.put,sLs])
      clear hS0 HSn;(try simp only[Exit.then])
      go_wp2_with fail;go_roundw
      case rel=>exact⟨k+1,_,by omega,by go_num,HDn⟩
      case measure=>simp[intOf];omega
     by_cases hk2:x.kind=2
     case pos=>
      have hkk:x.kind=2:=hk2;have d1:(x.kind==1)=false:=by simp;omega
      have d2:(x.kind==2)=true:=by simp[hkk]
      obtain⟨⟨y0,-,-,-,-,-,-,-,-,-,-⟩,hYl⟩:=fQ (x:=x) HY.out;go_wp2_with fail;clear y0 hYl;obtain⟨g0,g1,g2,g3,g4,hPl⟩:=an HD.out.gr.blkP;have hYl:Y<w2.heap.size:=(Array.getElem?_eq_some_iff.1 HY.out).1;have hdr:New w2 w2.drew:=(New.refl w2).drew;have HSn:∀V,New w2 V->(fun w':World=>w'.cell? ⟨P,2,none⟩=some (.slice q.ea q.edges.length q.ec)∧P<w'.heap.size∧Y<w'.heap.size∧w'.cell? ⟨Y,3,none⟩=some (.slice x.a x.xs.length x.c)∧w'.cell? ⟨Y,5,none⟩=some (I x.fp)∧w'.cell? ⟨Y,8,none⟩=some (I x.tp)) V:=fun V kv=>⟨kv.cell g2,Nat.lt_of_lt_of_le hPl kv.size,Nat.lt_of_lt_of_le hYl kv.size,by rw[cell_of_block (Keeps.heap kv HY.out (fun h=>h)) 3];rfl,by rw[cell_of_block (Keeps.heap kv HY.out (fun h=>h)) 5];rfl,by rw[cell_of_block (Keeps.heap kv HY.out (fun h=>h)) 8];rfl⟩
      have hS0:=HSn _ hdr;clear g0 g1 g2 g3 g4 hPl hYl;refine aj (fun w':World=>w'.cell? ⟨P,2,none⟩=some (.slice q.ea q.edges.length q.ec)∧P<w'.heap.size∧Y<w'.heap.size∧w'.cell? ⟨Y,3,none⟩=some (.slice x.a x.xs.length x.c)∧w'.cell? ⟨Y,5,none⟩=some (I x.fp)∧w'.cell? ⟨Y,8,none⟩=some (I x.tp)) [15,16,17] (by kernel_rfl) hS0 ?_;refine ae 0 hS0 ?_;refine ae 1 hS0 ?_;refine ae 2 hS0 ?_;refine ae 3 hS0 ?_;refine ae 4 hS0 ?_;refine ae 5 hS0 ?_;refine ae 6 hS0 ?_;refine ae 7 hS0 ?_;refine ae 8 hS0 ?_;refine ae 9 hS0 ?_;refine ae 10 hS0 ?_;refine ae 11 hS0 ?_;refine ag 12 ?_;intro K hK;(try simp only[Act.put,sLs])
      go_simp;refine(iH w2.drew x.a x.c x.xs (HXS _ (kb0.trans hdr)) jN).mono ?_;rintro e V1 ⟨a9,c9,rfl,ho9,kc1⟩;have kd1:=hdr.trans kc1;have hS1:=HSn _ kd1;refine hK _ _ (fun _=>hS1) ?_;clear hK K;refine ae 13 hS1 ?_;refine ag 14 ?_;intro K hK;(try simp only[Act.put,sLs])
      go_simp;have kl:New V1 (V1.alloc (.cells #[I (vf-1),I x.fp,I (vt-1),I x.tp,.slice a9 x.xs.length c9] 66)):=(New.refl V1).alloc _;have bi:ar (V1.alloc (.cells #[I (vf-1),I x.fp,I (vt-1),I x.tp,.slice a9 x.xs.length c9] 66)) (some ⟨V1.heap.size,0,none⟩) (bS (⟨vf-1,x.fp,vt-1,x.tp,a9,c9,x.xs⟩:GEdge)):=ar.lit V1 _ _;have kz:=kd1.trans kl;have hxo:bc (V1.alloc (.cells #[I (vf-1),I x.fp,I (vt-1),I x.tp,.slice a9 x.xs.length c9] 66)) w.heap.size ((⟨vf-1,x.fp,vt-1,x.tp,a9,c9,x.xs⟩:GEdge)).a ((⟨vf-1,x.fp,vt-1,x.tp,a9,c9,x.xs⟩:GEdge)).c ((⟨vf-1,x.fp,vt-1,x.tp,a9,c9,x.xs⟩:GEdge)).xs:=ownsRow_le (ho9.new kl) (Nat.le_trans HD.out.nw.size hdr.size);have hxd:∀k,blk ((⟨vf-1,x.fp,vt-1,x.tp,a9,c9,x.xs⟩:GEdge)).a k->w2.heap.size<=k:=fun k hk=>Nat.le_trans hdr.size (ai ho9 hk).1
      refine hK _ _ (fun _=>HSn _ kz) ?_;clear hK K;generalize(V1.alloc (.cells #[I (vf-1),I x.fp,I (vt-1),I x.tp,.slice a9 x.xs.length c9] 66))=VZ at kl bi kz hxo ⊢;generalize V1.heap.size=Z at bi ⊢;refine ag 15 ?_;intro K hK;refine cS rfl _ _ 23 rfl w.heap.size 66 it2 _ 5 56 Tryz.underlying23 Bp he0 he1 he2 rfl (by decide) q.ea q.edges.length q.ec (q.edges.flatMap bS) rfl (HD.out.new kz).gr.own.eo (some ⟨Z,0,none⟩) 1 1 (bS (⟨vf-1,x.fp,vt-1,x.tp,a9,c9,x.xs⟩:GEdge)) rfl rfl bi (sg _) (by unfold maxLen;omega) (by omega) (Nat.le_trans HD.out.nw.size kz.size) ?_;intro ao' c' wc az hk' hmv;obtain⟨⟨hv0,hfz,lS⟩,hDn⟩:=HD.out.addEdge x hkk (⟨vf-1,x.fp,vt-1,x.tp,a9,c9,x.xs⟩:GEdge) hxo hxd (by unfold ll;rw[HVF.out,HVT.out];rfl) kz az hk' hmv;rw[<-HTK.out] at hDn;have HDn:=Lib.hid hDn;refine hK _ _ (fun hx=>by cases hx) ?_;clear hK K hDn az hk' hmv;refine ag 16 ?_;intro K hK;(try simp only[Act.put,sLs])
      go_simp;refine hK _ _ (fun hx=>by cases hx) ?_;clear hK K;refine ag 17 ?_;intro K hK;(try simp only[Act.put,sLs])
      go_simp;refine hK _ _ (fun hx=>by cases hx) ?_;clear hK K;refine av (by kernel_rfl) ?_;(try simp only[Act.put,sLs])
      clear hS0 HSn;(try simp only[Exit.then])
      go_wp2_with fail;go_roundw
      case rel=>exact⟨k+1,_,by omega,by go_num,HDn⟩
      case measure=>simp[intOf];omega
     by_cases hk3:x.kind=3
     case pos=>
      have hkk:x.kind=3:=hk3;have d1:(x.kind==1)=false:=by simp;omega
      have d2:(x.kind==2)=false:=by simp;omega
      have d3:(x.kind==3)=true:=by simp[hkk]
      obtain⟨⟨y0,y1,y2,y3,y4,y5,y6,y7,y8,y9,y10⟩,hYl⟩:=fQ (x:=x) HY.out;obtain⟨g0,g1,g2,g3,g4,hPl⟩:=an HD.out.gr.blkP;have kz:New w2 (w2.alloc (.cells #[.string x.name,I (vt-1),I x.tp] 82)):=(New.refl w2).alloc _;have bi:ar (w2.alloc (.cells #[.string x.name,I (vt-1),I x.tp] 82)) (some ⟨w2.heap.size,0,none⟩) (aH (⟨x.name,vt-1,x.tp⟩:GPort)):=ar.lit w2 _ _;have hoz:=(HD.out.new kz).gr.own.io;go_wp2_with (at_builtin;refine aR rfl _ _ 24 rfl w.heap.size 82 it3 _ 3 32 Tryz.underlying24 yk hp0 hp1 hp2 rfl (by decide) q.ia q.ins.length q.ic (q.ins.flatMap aH) rfl hoz (some ⟨w2.heap.size,0,none⟩) 1 1 (aH (⟨x.name,vt-1,x.tp⟩:GPort)) rfl rfl bi (l8 _) (by unfold maxLen;omega) (by omega) (Nat.le_trans HD.out.nw.size kz.size) ?_);intro ao' c' wc az hk' hmv _;obtain⟨⟨hv0,hfz,lS⟩,hDn⟩:=HD.out.addIn x hkk (⟨x.name,vt-1,x.tp⟩:GPort) (by unfold v6;rw[HVT.out]) kz az hk' hmv;rw[<-HTK.out] at hDn;have HDn:=Lib.hid hDn;clear hDn az hk' hmv y0 y1 y2 y3 y4 y5 y6 y7 y8 y9 y10 hYl g0 g1 g2 g3 g4 hPl kz bi hoz;go_wp2_with fail;go_roundw
      case rel=>exact⟨k+1,_,by omega,by go_num,HDn⟩
      case measure=>simp[intOf];omega
     have hkk:x.kind=4:=by omega
     have d1:(x.kind==1)=false:=by simp;omega
     have d2:(x.kind==2)=false:=by simp;omega
     have d3:(x.kind==3)=false:=by simp;omega
     have d4:(x.kind==4)=true:=by simp[hkk]
     obtain⟨⟨y0,y1,y2,y3,y4,y5,y6,y7,y8,y9,y10⟩,hYl⟩:=fQ (x:=x) HY.out;obtain⟨g0,g1,g2,g3,g4,hPl⟩:=an HD.out.gr.blkP;have kz:New w2 (w2.alloc (.cells #[.string x.name,I (vf-1),I x.fp] 82)):=(New.refl w2).alloc _;have bi:ar (w2.alloc (.cells #[.string x.name,I (vf-1),I x.fp] 82)) (some ⟨w2.heap.size,0,none⟩) (aH (⟨x.name,vf-1,x.fp⟩:GPort)):=ar.lit w2 _ _;have hoz:=(HD.out.new kz).gr.own.oo;go_wp2_with (at_builtin;refine aR rfl _ _ 24 rfl w.heap.size 82 it3 _ 3 32 Tryz.underlying24 yk hp0 hp1 hp2 rfl (by decide) q.oa q.outs.length q.oc (q.outs.flatMap aH) rfl hoz (some ⟨w2.heap.size,0,none⟩) 1 1 (aH (⟨x.name,vf-1,x.fp⟩:GPort)) rfl rfl bi (l8 _) (by unfold maxLen;omega) (by omega) (Nat.le_trans HD.out.nw.size kz.size) ?_);intro ao' c' wc az hk' hmv _;obtain⟨⟨hv0,hfz,lS⟩,hDn⟩:=HD.out.addOut x hkk (⟨x.name,vf-1,x.fp⟩:GPort) (by unfold pF;rw[HVF.out]) kz az hk' hmv;rw[<-HTK.out] at hDn;have HDn:=Lib.hid hDn;clear hDn az hk' hmv y0 y1 y2 y3 y4 y5 y6 y7 y8 y9 y10 hYl g0 g1 g2 g3 g4 hPl kz bi hoz;go_wp2_with fail;go_roundw
     case rel=>exact⟨k+1,_,by omega,by go_num,HDn⟩
     case measure=>simp[intOf];omega
    ·have hke:k=s.items.length:=by omega
     have hkd:decide (k<s.items.length)=false:=decide_eq_false hk1;rw[hke,List.take_length] at HD;clear hke hk hk1;have HBA:Hid (q.bare=aX s):=Lib.hid HD.out.ba;have HFI:∀W,New wr W->Calls Tryz.prog 45 #[q.v] W fun en w'=>en= .returned (kf (bz (aX s)))∧New W w':=fun W n=>by
      have h:=pv W q (HD.out.gr.own.at.new n) (uH HBA.out HL.out);have e:bz q=bz (aX s):=by rw[<-js q,HBA.out]
      rwa [e] at h
     have hf2:=rD (aX s);have HPL:∀W kd i d,0<=i->New w W->Calls Tryz.prog 55 #[s.v,.agg #[.int .u8 kd,I i,I d]] W fun e w'=>e= .returned (I (fj s.items kd i d))∧New W w':=fun W kd i d hi n=>sZ W s kd i d (HS.out.new n) HL.out hi
     have HBF:Hid (cx s=if(bz (aX s)).1=0 then(0,0) else((bz (aX s)).1,fj s.items (bz (aX s)).2.1 (bz (aX s)).2.2.1 (bz (aX s)).2.2.2)):=Lib.hid (by unfold cx;rw[HFN.out]);generalize bz (aX s)=f at HFI hf2 HBF;obtain⟨f0,f1,f2,f3⟩:=f;simp only[Gr.v,Gr.cs,kf,lc] at HFI;simp only at hf2 HBF;obtain⟨g0,g1,g2,g3,g4,hPl⟩:=an HD.out.gr.blkP;go_wp2_with fail;refine(HFI wr (New.refl _)).mono ?_;rintro e w3 ⟨rfl,k3⟩;replace HD:=Lib.hid (HD.out.new k3);clear k3 HFI g0 g1 g2 g3 g4 hPl;by_cases hf:f0=0
     ·have d0:(f0 != 0)=false:=by simp[hf]
      rw[if_pos hf] at HBF;have HPP:Hid (∀W',Keeps (fun k=>k=w.heap.size+1∨k=w.heap.size+1+1) w3 W'->post (.returned (.tuple #[.agg #[.string q.name,.slice q.aa q.acts.length q.ac,.slice q.ea q.edges.length q.ec,.slice q.ia q.ins.length q.ic,.slice q.oa q.outs.length q.oc],.agg #[I 0,I 0]])) W'):=Lib.hid (fun W' kW=>by
       rw[<-HP.out];unfold nN;rw[HBF.out,if_neg (by simp)];exact⟨q,rfl,HD.out.gr.own.results HD.out.h1 HD.out.h2 kW,HBA.out,New.keeps HD.out.nw kW (fun i hi h=>by omega)⟩)
      clear hf;obtain⟨c0,c1,c2,c3,c4,hPl⟩:=an HD.out.gr.blkP;obtain⟨g0,g1,g2,g3,g4,hGl⟩:=an HD.out.h1;obtain⟨e0,e1,z0,z1,hFl⟩:=cf HD.out.h2;have hGf:∀i,w3.frozen? ⟨w.heap.size+1,i,none⟩=false:=fun i=>unfrozen_of_block HD.out.h1 i
      have gz0:=hGf 0;have gz1:=hGf 1;have gz2:=hGf 2;have gz3:=hGf 3;have gz4:=hGf 4;clear hGf;go_wp2_with fail;have G1:=Lib.hid HD.out.h1;have G2:=Lib.hid HD.out.h2;clear g0 g1 g2 g3 g4 e0 e1 z0 z1 gz0 gz1 gz2 gz3 gz4 hFl hGl c0 c1 c2 c3 c4 hPl HD;generalize hW9:(((((((w3.setCell ⟨w.heap.size+1,0,none⟩ (.string q.name)).setCell ⟨w.heap.size+1,1,none⟩ (.slice q.aa q.acts.length q.ac)).setCell ⟨w.heap.size+1,2,none⟩ (.slice q.ea q.edges.length q.ec)).setCell ⟨w.heap.size+1,3,none⟩ (.slice q.ia q.ins.length q.ic)).setCell ⟨w.heap.size+1,4,none⟩ (.slice q.oa q.outs.length q.oc)).setCell ⟨w.heap.size+1+1,0,none⟩ (I 0)).setCell ⟨w.heap.size+1+1,1,none⟩ (I 0))=W9;obtain⟨⟨⟨c0,c1,c2,c3,c4,hGl⟩,e0,e1,hFl⟩,k9⟩:=ci G1.out G2.out hW9;clear hW9;exact bodyPost_ret (v:= .tuple #[.agg #[.string q.name,.slice q.aa q.acts.length q.ac,.slice q.ea q.edges.length q.ec,.slice q.ia q.ins.length q.ic,.slice q.oa q.outs.length q.oc],.agg #[I 0,I 0]]) (by simp[results,Tryz.results24,go_sem,c0,c1,c2,c3,c4,e0,e1,hGl,hFl]) rfl (HPP.out _ (k9.trans (Keeps.alloc (S:=fun k=>k=w.heap.size+1∨k=w.heap.size+1+1) _ _) (fun _ _ h=>h)))
     ·have d0:(f0 != 0)=true:=by simp[hf]
      rw[if_neg hf] at HBF;have HPP:Hid (∀W',New w W'->post (.returned (.tuple #[.agg #[.string ⟨#[]⟩,.slice none 0 0,.slice none 0 0,.slice none 0 0,.slice none 0 0],.agg #[I f0,I (fj s.items f1 f2 f3)]])) W'):=Lib.hid (fun W' kW=>by
       rw[<-HP.out];unfold nN;rw[HBF.out,if_pos hf];exact⟨rfl,kW⟩)
      clear hf;have ks:New w3 (w3.alloc (.cells #[.int .u8 f1,I f2,I f3] 85)):=(New.refl w3).alloc _;have HPV:=HPL (w3.alloc (.cells #[.int .u8 f1,I f2,I f3] 85)) f1 f2 f3 hf2 (HD.out.nw.trans ks);simp only[Sk.v,Sk.cs] at HPV;rw[HSI.out] at HPV;generalize fj s.items f1 f2 f3=pl at HPV HPP;have hsb:=HD.out.hs;simp only[Sk.cs] at hsb;rw[HSI.out] at hsb;obtain⟨p0,p1,-,-,hSl⟩:=cR hsb;clear hsb;go_wp2_with fail;refine HPV.mono ?_;rintro e w5 ⟨rfl,k5⟩;have G1:=Lib.hid (Keeps.heap (ks.trans k5) HD.out.h1 (fun h=>h));have G2:=Lib.hid (Keeps.heap (ks.trans k5) HD.out.h2 (fun h=>h));have hNN:=(HD.out.nw.trans ks).trans k5;obtain⟨g0,g1,g2,g3,g4,hGl⟩:=an G1.out;obtain⟨e0,e1,z0,z1,hFl⟩:=cf G2.out;have hGf:∀i,w5.frozen? ⟨w.heap.size+1,i,none⟩=false:=fun i=>unfrozen_of_block G1.out i
      have gz0:=hGf 0;have gz1:=hGf 1;have gz2:=hGf 2;have gz3:=hGf 3;have gz4:=hGf 4;clear hGf p0 p1 hSl k5 HPV HPL HD ks;go_wp2_with fail;clear g0 g1 g2 g3 g4 e0 e1 z0 z1 gz0 gz1 gz2 gz3 gz4 hFl hGl;generalize hW9:(((((((w5.setCell ⟨w.heap.size+1,0,none⟩ (.string ⟨#[]⟩)).setCell ⟨w.heap.size+1,1,none⟩ (.slice none 0 0)).setCell ⟨w.heap.size+1,2,none⟩ (.slice none 0 0)).setCell ⟨w.heap.size+1,3,none⟩ (.slice none 0 0)).setCell ⟨w.heap.size+1,4,none⟩ (.slice none 0 0)).setCell ⟨w.heap.size+1+1,0,none⟩ (I f0)).setCell ⟨w.heap.size+1+1,1,none⟩ (I pl))=W9;obtain⟨⟨⟨c0,c1,c2,c3,c4,hGl⟩,e0,e1,hFl⟩,k9⟩:=ci G1.out G2.out hW9;clear hW9;exact bodyPost_ret (v:= .tuple #[.agg #[.string ⟨#[]⟩,.slice none 0 0,.slice none 0 0,.slice none 0 0,.slice none 0 0],.agg #[I f0,I pl]]) (by simp[results,Tryz.results24,go_sem,c0,c1,c2,c3,c4,e0,e1,hGl,hFl]) rfl (HPP.out _ (New.keeps hNN k9 (fun i hi h=>by omega)))
theorem kZ (w:World) (a b:Option Addr) (c d:Nat) (l:List GPort) (ha:ar w a (l.flatMap aH)) (hb:ar w b (l.flatMap aH)) (hl:l.length<=9223372036854775807):
  Calls Tryz.prog 31 #[.slice a l.length c,.slice b l.length d] w fun e w'=>e= .returned (.bool true)∧New w w':=by
 have HA:=Lib.hid ha;have HB:=Lib.hid hb;clear ha hb;go_enter Tryz.func31,Tryz.ntmps31;go_wp2_with fail;go_loopw [5] (fun i wr=>∃k:Nat,k<=l.length∧i= .int .i64 k∧New w wr) (fun i _=>l.length-(intOf i).toNat)
 case atStart=>exact⟨0,by omega,rfl,New.refl _⟩
 case round=>
  obtain⟨k,hk,rfl,hN⟩:=hrel;by_cases hk1:k<l.length
  ·obtain⟨b1,o1,e1,q0,q1,q2⟩:=ej (HA.out.new hN) hk1;obtain⟨b2,o2,e2,p0,p1,p2⟩:=ej (HB.out.new hN) hk1;subst e1 e2;have hb1:b1<wr.heap.size:=World.block_lt_of_cell? wr _ q0;have hb2:b2<wr.heap.size:=World.block_lt_of_cell? wr _ p0;have hk0:(k:Int)<(l.length:Int):=by omega
   have hkd:decide (k<l.length)=true:=decide_eq_true hk1;generalize l[k]=x at q0 q1 q2 p0 p1 p2;go_wp2_with fail;go_quiet (fail)
   go_wp2_with fail;go_roundw
   case rel=>exact⟨k+1,by omega,by go_num,by first|exact hN|exact hN.drewN _|(repeat(first|exact hN|refine New.alloc ?_ _|refine New.drew ?_))⟩
   case measure=>simp[intOf];omega
  ·have hkd:decide (k<l.length)=false:=decide_eq_false hk1;go_wp2_with fail;go_ret
   exact⟨rfl,hN⟩
theorem g8 {p q:Gr} (h:p.bare=q.bare):p.name=q.name∧p.acts.map GAct.bare=q.acts.map GAct.bare∧p.edges.map GEdge.bare=q.edges.map GEdge.bare∧p.ins=q.ins∧p.outs=q.outs:=by
 unfold Gr.bare at h;simp only[Gr.mk.injEq,true_and] at h;exact h
theorem kY (w:World) (p q:Gr) (hp:GrAt w p) (hq:GrAt w q) (h:p.bare=q.bare) (hl:GLen p):
  Calls Tryz.prog 13 #[p.v,q.v] w fun e w'=>e= .returned (.bool true)∧New w w':=by
 obtain⟨h1,h2,h3,h4,h5⟩:=g8 h;have l2:q.acts.length=p.acts.length:=by have:=congrArg List.length h2;simpa using this.symm
 have l3:q.edges.length=p.edges.length:=by have:=congrArg List.length h3;simpa using this.symm
 clear h;have DK:=Lib.hid hp.sa;have DL:=Lib.hid hp.se;have DM:=Lib.hid hp.si;have DN:=Lib.hid hp.so;have DI:=Lib.hid hp.ax;have DJ:=Lib.hid hp.ex;have DQ:=Lib.hid hq.sa;have DR:=Lib.hid hq.se;have DS:=Lib.hid hq.si;have DT:=Lib.hid hq.so;have DO:=Lib.hid hq.ax;have DP:=Lib.hid hq.ex;have la:=hl.a;have le:=hl.e;have li:=hl.i;have lo:=hl.o;have lax:=Lib.hid hl.ax;have lex:=Lib.hid hl.ex;clear hp hq hl;obtain⟨pn,paa,pac,fw,pea,pec,dD,pia,pic,lz,poa,poc,iq⟩:=p;obtain⟨qn,qaa,qac,A1,qea,qec,zm,qia,qic,EL,qoa,qoc,D9⟩:=q;simp only at*;subst h1 h4 h5;simp only[Gr.v,Gr.cs];rw[l2,l3];have L2:=Lib.hid l2;have L3:=Lib.hid l3;have H2:=Lib.hid h2;have H3:=Lib.hid h3;clear l2 l3 h2 h3;go_enter Tryz.func13,Tryz.ntmps13;have na:New w (w.alloc (.cells #[.string pn,.slice paa fw.length pac,.slice pea dD.length pec,.slice pia lz.length pic,.slice poa iq.length poc] 26)):=(New.refl w).alloc _;have ha:(w.alloc (.cells #[.string pn,.slice paa fw.length pac,.slice pea dD.length pec,.slice pia lz.length pic,.slice poa iq.length poc] 26)).heap[w.heap.size]? =some (.cells #[.string pn,.slice paa fw.length pac,.slice pea dD.length pec,.slice pia lz.length pic,.slice poa iq.length poc] 26 (0,0)):=heap_alloc_new w _;have sa:(w.alloc (.cells #[.string pn,.slice paa fw.length pac,.slice pea dD.length pec,.slice pia lz.length pic,.slice poa iq.length poc] 26)).heap.size=w.heap.size+1:=aG _ _;have nb:New (w.alloc (.cells #[.string pn,.slice paa fw.length pac,.slice pea dD.length pec,.slice pia lz.length pic,.slice poa iq.length poc] 26)) ((w.alloc (.cells #[.string pn,.slice paa fw.length pac,.slice pea dD.length pec,.slice pia lz.length pic,.slice poa iq.length poc] 26)).alloc (.cells #[.string pn,.slice qaa fw.length qac,.slice qea dD.length qec,.slice qia lz.length qic,.slice qoa iq.length qoc] 26)):=(New.refl _).alloc _;have hb:((w.alloc (.cells #[.string pn,.slice paa fw.length pac,.slice pea dD.length pec,.slice pia lz.length pic,.slice poa iq.length poc] 26)).alloc (.cells #[.string pn,.slice qaa fw.length qac,.slice qea dD.length qec,.slice qia lz.length qic,.slice qoa iq.length qoc] 26)).heap[w.heap.size+1]? =some (.cells #[.string pn,.slice qaa fw.length qac,.slice qea dD.length qec,.slice qia lz.length qic,.slice qoa iq.length qoc] 26 (0,0)):=by
  have:=heap_alloc_new (w.alloc (.cells #[.string pn,.slice paa fw.length pac,.slice pea dD.length pec,.slice pia lz.length pic,.slice poa iq.length poc] 26)) (.cells #[.string pn,.slice qaa fw.length qac,.slice qea dD.length qec,.slice qia lz.length qic,.slice qoa iq.length qoc] 26);rwa [sa] at this
 replace ha:=Keeps.heap nb ha (fun h=>h);have kA:=na.trans nb;clear na nb sa;go_wp2_with fail;generalize((w.alloc (.cells #[.string pn,.slice paa fw.length pac,.slice pea dD.length pec,.slice pia lz.length pic,.slice poa iq.length poc] 26)).alloc (.cells #[.string pn,.slice qaa fw.length qac,.slice qea dD.length qec,.slice qia lz.length qic,.slice qoa iq.length qoc] 26))=W at kA ha hb ⊢;have HA:=Lib.hid ha;have HB:=Lib.hid hb;clear ha hb;go_loopw [5] (fun i wr=>∃k:Nat,k<=fw.length∧i= .int .i64 k∧New W wr) (fun i _=>fw.length-(intOf i).toNat)
 case atStart=>exact⟨0,by omega,rfl,New.refl _⟩
 case round=>
  obtain⟨k,hk,rfl,hN⟩:=hrel;obtain⟨c0,c1,c2,c3,c4,hCl⟩:=an (Keeps.heap hN HA.out (fun h=>h));obtain⟨d0,d1,d2,d3,d4,hDl⟩:=an (Keeps.heap hN HB.out (fun h=>h));have hNw:=kA.trans hN;by_cases hk1:k<fw.length
  ·have hk2:k<A1.length:=by have:=L2.out;omega
   obtain⟨b1,o1,e1,q0,q1,q2⟩:=gP (DK.out.new hNw) hk1;obtain⟨b2,o2,e2,p0,p1,p2⟩:=gP (DQ.out.new hNw) hk2;subst e1 e2;have hb1:b1<wr.heap.size:=World.block_lt_of_cell? wr _ q0;have hb2:b2<wr.heap.size:=World.block_lt_of_cell? wr _ p0;have hx:=fun W (n:New wr W)=>(DI.out _ (List.getElem_mem hk1)).new (hNw.trans n)
   have hy:=fun W (n:New wr W)=>(DO.out _ (List.getElem_mem hk2)).new (hNw.trans n)
   have he:=yQ H2.out k hk1 hk2;have hxl:=(lax.out _ (List.getElem_mem hk1)).1;have hk0:(k:Int)<(fw.length:Int):=by omega
   have hkd:decide (k<fw.length)=true:=decide_eq_true hk1;generalize fw[k]=x at q0 q1 q2 hx he hxl;generalize A1[k]=y at p0 p1 p2 hy he;obtain⟨xn,xt,xa,xc,xs⟩:=x;obtain⟨yn,yt,ya,yc,ys⟩:=y;simp only[GAct.bare,GAct.mk.injEq,true_and] at he;obtain⟨rfl,rfl,rfl⟩:=he;simp only at q0 q1 q2 p0 p1 p2 hx hy hxl;have hsi:∀W (n:New wr W),Calls Tryz.prog 30 #[.slice xa xs.length xc,.slice ya xs.length yc] W fun e w'=>e= .returned (.bool true)∧∃n,w'=W.drewN n:=fun W n=>nh W _ _ _ _ _ _ _ _ (hx W n) (hy W n) rfl rfl true (decide_eq_true rfl) hxl
   clear hx hy;go_wp2_with fail;refine(hsi _ (((New.refl wr).alloc _).alloc _)).mono ?_;rintro e w9 ⟨rfl,n9,rfl⟩;go_wp2_with fail;go_roundw
   case rel=>exact⟨k+1,by omega,by go_num,((hN.alloc _).alloc _).drewN _⟩
   case measure=>simp[intOf];omega
  ·have hkd:decide (k<fw.length)=false:=decide_eq_false hk1;clear hk hk1;replace kA:=kA.trans hN;have HA2:=Lib.hid (Keeps.heap hN HA.out (fun h=>h));have HB2:=Lib.hid (Keeps.heap hN HB.out (fun h=>h));replace HA:=HA2;replace HB:=HB2;clear HA2 HB2 hN;go_wp2_with fail;clear c0 c1 c2 c3 c4 hCl d0 d1 d2 d3 d4 hDl;obtain⟨v1,hv1⟩:∃v,v=wr:=⟨_,rfl⟩
   subst hv1;go_loopw [8] (fun i wr=>∃k:Nat,k<=dD.length∧i= .int .i64 k∧New v1 wr) (fun i _=>dD.length-(intOf i).toNat)
   case atStart=>exact⟨0,by omega,rfl,New.refl _⟩
   case round=>
    obtain⟨k,hk,rfl,hN⟩:=hrel;obtain⟨c0,c1,c2,c3,c4,hCl⟩:=an (Keeps.heap hN HA.out (fun h=>h));obtain⟨d0,d1,d2,d3,d4,hDl⟩:=an (Keeps.heap hN HB.out (fun h=>h));have hNw:=kA.trans hN;by_cases hk1:k<dD.length
    ·have hk2:k<zm.length:=by have:=L3.out;omega
     obtain⟨b1,o1,e1,q0,q1,q2,q3,q4⟩:=fH (DL.out.new hNw) hk1;obtain⟨b2,o2,e2,p0,p1,p2,p3,p4⟩:=fH (DR.out.new hNw) hk2;subst e1 e2;have hb1:b1<wr.heap.size:=World.block_lt_of_cell? wr _ q0;have hb2:b2<wr.heap.size:=World.block_lt_of_cell? wr _ p0;have hx:=fun W (n:New wr W)=>(DJ.out _ (List.getElem_mem hk1)).new (hNw.trans n)
     have hy:=fun W (n:New wr W)=>(DP.out _ (List.getElem_mem hk2)).new (hNw.trans n)
     have he:=yQ H3.out k hk1 hk2;have hxl:=(lex.out _ (List.getElem_mem hk1))
     have hk0:(k:Int)<(dD.length:Int):=by omega
     have hkd:decide (k<dD.length)=true:=decide_eq_true hk1;generalize dD[k]=x at q0 q1 q2 q3 q4 hx he hxl;generalize zm[k]=y at p0 p1 p2 p3 p4 hy he;obtain⟨xf,xfp,xt,xtp,xa,xc,xs⟩:=x;obtain⟨yf,yfp,yt,ytp,ya,yc,ys⟩:=y;simp only[GEdge.bare,GEdge.mk.injEq,true_and] at he;obtain⟨rfl,rfl,rfl,rfl,rfl⟩:=he;simp only at q0 q1 q2 q3 q4 p0 p1 p2 p3 p4 hx hy hxl;have hsi:∀W (n:New wr W),Calls Tryz.prog 30 #[.slice xa xs.length xc,.slice ya xs.length yc] W fun e w'=>e= .returned (.bool true)∧∃n,w'=W.drewN n:=fun W n=>nh W _ _ _ _ _ _ _ _ (hx W n) (hy W n) rfl rfl true (decide_eq_true rfl) hxl
     clear hx hy;go_wp2_with fail;refine(hsi _ (((New.refl wr).alloc _).alloc _)).mono ?_;rintro e w9 ⟨rfl,n9,rfl⟩;go_wp2_with fail;go_roundw
     case rel=>exact⟨k+1,by omega,by go_num,((hN.alloc _).alloc _).drewN _⟩
     case measure=>simp[intOf];omega
    ·have hkd:decide (k<dD.length)=false:=decide_eq_false hk1;clear hk hk1;have hpi:=fun W (n:New wr W)=>kZ W pia qia pic qic lz (DM.out.new (hNw.trans n)) (DS.out.new (hNw.trans n)) li
     have hpo:=fun W (n:New wr W)=>kZ W poa qoa poc qoc iq (DN.out.new (hNw.trans n)) (DT.out.new (hNw.trans n)) lo
     have HAw:=Lib.hid (Keeps.heap hN HA.out (fun h=>h));have HBw:=Lib.hid (Keeps.heap hN HB.out (fun h=>h));go_wp2_with fail;refine(hpi _ (New.refl _)).mono ?_;rintro e w8 ⟨rfl,n8⟩;clear c0 c1 c2 c3 c4 hCl d0 d1 d2 d3 d4 hDl;obtain⟨c0,c1,c2,c3,c4,hCl⟩:=an (Keeps.heap n8 HAw.out (fun h=>h));obtain⟨d0,d1,d2,d3,d4,hDl⟩:=an (Keeps.heap n8 HBw.out (fun h=>h));go_wp2_with fail;refine(hpo _ n8).mono ?_;rintro e w9 ⟨rfl,n9⟩;go_wp2_with fail;go_ret
     exact⟨rfl,(hNw.trans n8).trans n9⟩
theorem oO (k:Int) (l:List SIt):ofK k (l.map SIt.bare)=(ofK k l).map SIt.bare:=by
 unfold ofK;rw[List.filter_map];rfl
theorem wm (l:List SIt) (s:ByteArray):cv (l.map SIt.bare) s=cv l s:=by
 unfold cv;rw[oO,List.findIdx?_map];rfl
theorem rn (n:ByteArray) (V:ByteArray->Int) (l:List SIt):bv n V (l.map SIt.bare)=bv n V l:=by
 unfold bv;simp only[oO,List.map_map];rfl
theorem jU (s:Sk):aX s.bare=aX s:=by
 unfold aX;have:cv s.bare.items=cv s.items:=funext fun t=>wm s.items t
 rw[this];exact rn s.name _ s.items
theorem sp (l:List SIt) (kd i d:Int):fj (l.map SIt.bare) kd i d=fj l kd i d:=by
 unfold fj;rw[oO,List.getElem?_map];cases(ofK kd l)[i.toNat]? <;>rfl
theorem mY (s:Sk):cx s.bare=cx s:=by
 unfold cx;have h:s.bare.items=s.items.map SIt.bare:=rfl;rw[jU,h,List.find?_map];have hb:gZ∘SIt.bare=gZ:=funext fun x=>rfl
 rw[hb];cases s.items.find? gZ with
 |some x=>rfl
 |none=>
  simp only[Option.map_none,sp]
def sm (n:Nat) (tp:Int):Gr:=
 ⟨⟨#[103]⟩,some ⟨n+1+1,0,none⟩,2,[⟨⟨#[97]⟩,2,some ⟨n+1,0,none⟩,1,[2]⟩,⟨⟨#[98]⟩,8,none,0,[]⟩],some ⟨n+1+1+1+1,0,none⟩,1,[⟨0,0,1,tp,some ⟨n+1+1+1,0,none⟩,1,[7]⟩],
  some ⟨n+1+1+1+1+1,0,none⟩,1,[⟨⟨#[120]⟩,0,0⟩],some ⟨n+1+1+1+1+1+1,0,none⟩,1,[⟨⟨#[121]⟩,1,0⟩]⟩
structure SmAt (w:World) (n:Nat) (tp:Int):Prop where
 b1:w.heap[n+1]? =some (.cells #[I 2] 3 (0,0))
 b2:w.heap[n+1+1]? =some (.cells #[.string ⟨#[97]⟩,.int .u8 2,.slice (some ⟨n+1,0,none⟩) 1 1,.string ⟨#[98]⟩,.int .u8 8,.slice none 0 0] 63 (0,0))
 b3:w.heap[n+1+1+1]? =some (.cells #[I 7] 3 (0,0))
 b4:w.heap[n+1+1+1+1]? =some (.cells #[I 0,I 0,I 1,I tp,.slice (some ⟨n+1+1+1,0,none⟩) 1 1] 66 (0,0))
 b5:w.heap[n+1+1+1+1+1]? =some (.cells #[.string ⟨#[120]⟩,I 0,I 0] 82 (0,0))
 b6:w.heap[n+1+1+1+1+1+1]? =some (.cells #[.string ⟨#[121]⟩,I 1,I 0] 82 (0,0))
theorem SmAt.new {w w':World} {n:Nat} {tp:Int} (h:SmAt w n tp) (k:New w w'):SmAt w' n tp:=
 ⟨Keeps.heap k h.b1 (fun h=>h),Keeps.heap k h.b2 (fun h=>h),Keeps.heap k h.b3 (fun h=>h),Keeps.heap k h.b4 (fun h=>h),Keeps.heap k h.b5 (fun h=>h),Keeps.heap k h.b6 (fun h=>h)⟩
theorem SmAt.at {w:World} {n:Nat} {tp:Int} (h:SmAt w n tp):GrAt w (sm n tp):=by
 refine⟨ar.block (cs:=(sm n tp).acts.flatMap ct) h.b2,ar.block (cs:=(sm n tp).edges.flatMap bS) h.b4,ar.block (cs:=(sm n tp).ins.flatMap aH) h.b5,ar.block (cs:=(sm n tp).outs.flatMap aH) h.b6,fun x hx=>?_,fun x hx=>?_⟩
 ·simp only[sm,List.mem_cons,List.not_mem_nil,or_false] at hx;rcases hx with rfl|rfl
  ·exact ar.block (cs:=Is [2]) h.b1
  ·exact ar.nil _ _
 ·simp only[sm,List.mem_cons,List.not_mem_nil,or_false] at hx;subst hx;exact ar.block (cs:=Is [7]) h.b3
structure GFew (g:Gr):Prop where
 n:g.acts.length+g.edges.length+g.ins.length+g.outs.length<=1048576
 ax:∀x∈g.acts,x.xs.length<=1048576
 ex:∀x∈g.edges,x.xs.length<=1048576
theorem il {α β:Type} {f:α->β} {l:List α} (h:∀(i k:Nat) (hi:i<l.length) (hk:k<i),f (l[k]'(by omega))≠f l[i]):(l.map f).Nodup:=by
 unfold List.Nodup;rw[List.pairwise_iff_getElem];intro i j hi hj hij;simp only[List.length_map] at hi hj;simp only[List.getElem_map];exact h j i hj hij
theorem fV {α β:Type} {f:α->β} {l:List α} (h:(l.map f).Nodup) (i k:Nat) (hi:i<l.length) (hk:k<i):f (l[k]'(by omega))≠f l[i]:=by
 unfold List.Nodup at h;rw[List.pairwise_iff_getElem] at h;have:=h k i (by simp;omega) (by simpa using hi) hk;simpa using this
theorem kD {α:Type} {l m:List α} (h1:l.Nodup) (h2:m.Nodup) (h3:∀a∈l,∀b∈m,a≠b):(l++m).Nodup:=by
 unfold List.Nodup;rw[List.pairwise_append];exact⟨h1,h2,h3⟩
theorem eY {α:Type} {l m:List α} (h:(l++m).Nodup):l.Nodup∧m.Nodup∧∀a∈l,∀b∈m,a≠b:=by
 unfold List.Nodup at h;rw[List.pairwise_append] at h;exact h
theorem dG {α:Type} {p:α->Bool} {l:List α} {i:Nat} (h:(l.take i).any p=false) (k:Nat) (hk:k<l.length) (hki:k<i):p l[k]=false:=by
 have:=List.any_eq_false.1 h l[k] (List.mem_take_iff_getElem.2 ⟨k,by omega,rfl⟩);simpa using this
theorem dQ {α:Type} {p:α->Bool} {l:List α} {i:Nat} (h:∀(k:Nat) (hk:k<l.length),k<i->p l[k]=false):(l.take i).any p=false:=by
 rw[List.any_eq_false];intro x hx;obtain⟨k,hk,rfl⟩:=List.mem_take_iff_getElem.1 hx;rw[h k (by omega) (by omega)];simp
def pT (g:Gr):List (Int×Int):=g.edges.map (fun x=>(x.f,x.fp))++g.outs.map (fun x=>(x.ac,x.po))
def vY (g:Gr):List (Int×Int):=g.edges.map (fun x=>(x.t,x.tp))++g.ins.map (fun x=>(x.ac,x.po))
def pg (g:Gr):List ByteArray:=g.acts.map (·.name)++(g.ins.map (·.name)++g.outs.map (·.name))
def InR (l:List GAct) (n:GAct->Nat) (q:Int×Int):Prop:=∃(k:Nat) (hk:k<l.length),q.1=k∧0<=q.2∧q.2<n l[k]
structure Fair (g:Gr):Prop where
 nm:aQ g.name=true
 na1:1<=g.acts.length
 na:g.acts.length<=32
 ne:g.edges.length<=96
 ni:g.ins.length<=16
 no:g.outs.length<=16
 nms:∀s∈pg g,aQ s=true
 nmd:((pg g).map aB).Nodup
 shp:∀x∈g.acts,(bs x.tag x.xs).1=0
 ln:∀x∈g.edges,x.xs.length<=256
 od:(pT g).Nodup
 idn:(vY g).Nodup
 orr:∀q∈pT g,InR g.acts cr q
 irr:∀q∈vY g,InR g.acts nIn q
structure Cov (g:Gr):Prop where
 o:∀(k:Nat) (hk:k<g.acts.length) (p:Nat),p<cr g.acts[k]->((k:Int),(p:Int))∈pT g
 i:∀(k:Nat) (hk:k<g.acts.length) (p:Nat),p<nIn g.acts[k]->((k:Int),(p:Int))∈vY g
theorem gk {l:List ByteArray} {s:ByteArray} :cP l s=0 ↔ aQ s=true∧∀t∈l,aB t≠aB s:=by
 unfold cP;cases h:aQ s with
 |false=>simp
 |true=>
  simp only[Bool.true_eq_false,if_false,true_and];constructor
  ·intro h2 t ht e;rw[if_pos (List.any_eq_true.2 ⟨t,ht,by simp[e]⟩)] at h2;cases h2
  ·intro h2;rw[if_neg];intro h3;obtain⟨t,ht,he⟩:=List.any_eq_true.1 h3;exact h2 t ht (by simpa using he)
theorem kw {g:Gr} {n:GAct->Nat} {tk:Bool} {a p:Int} (h:InR g.acts n (a,p)) (ht:tk=false):dp g n tk a p=0:=by
 obtain⟨k,hk,e,h0,h1⟩:=h;simp only at e h0 h1;subst e ht;unfold dp;rw[dif_pos ⟨by omega,by omega⟩,if_pos ⟨h0,by simpa using h1⟩];rfl
theorem ww (g:Gr) (a p:Int):aZ g g.edges.length g.outs.length a p=true ↔ (a,p)∈pT g:=by
 unfold aZ pT;simp only[List.take_length,Bool.or_eq_true,List.any_eq_true,List.mem_append,List.mem_map,decide_eq_true_eq,Prod.mk.injEq]
theorem yE (g:Gr) (a p:Int):bZ g g.edges.length g.ins.length a p=true ↔ (a,p)∈vY g:=by
 unfold bZ vY;simp only[List.take_length,Bool.or_eq_true,List.any_eq_true,List.mem_append,List.mem_map,decide_eq_true_eq,Prod.mk.injEq]
theorem gz {g:Gr} {i:Nat} {x:GAct} :e8 g i x=false ↔ (∀p<nIn x,((i:Int),(p:Int))∈vY g)∧(∀p<cr x,((i:Int),(p:Int))∈pT g):=by
 unfold e8;simp only[Bool.or_eq_false_iff,List.any_eq_false,List.mem_range,Bool.not_eq_true',Bool.not_eq_false,yE,ww]
theorem Sound.fair {g:Gr} (h:Sound g):Fair g∧Cov g:=by
 have hA:=fun i hi=>(h.act i hi)
 have hE1:∀i (hi:i<g.edges.length),InR g.acts cr (g.edges[i].f,g.edges[i].fp)∧aZ g i 0 g.edges[i].f g.edges[i].fp=false:=fun i hi=>by
  obtain⟨x,hx,e,h0,h1,ht⟩:=fF (h.edge i hi).1;exact⟨⟨x,hx,e,h0,h1⟩,ht⟩
 have hE2:∀i (hi:i<g.edges.length),InR g.acts nIn (g.edges[i].t,g.edges[i].tp)∧bZ g i 0 g.edges[i].t g.edges[i].tp=false:=fun i hi=>by
  obtain⟨x,hx,e,h0,h1,ht⟩:=fF (h.edge i hi).2.1;exact⟨⟨x,hx,e,h0,h1⟩,ht⟩
 have hI:∀i (hi:i<g.ins.length),InR g.acts nIn (g.ins[i].ac,g.ins[i].po)∧bZ g g.edges.length i g.ins[i].ac g.ins[i].po=false:=fun i hi=>by
  obtain⟨x,hx,e,h0,h1,ht⟩:=fF (h.inp i hi).2;exact⟨⟨x,hx,e,h0,h1⟩,ht⟩
 have hO:∀i (hi:i<g.outs.length),InR g.acts cr (g.outs[i].ac,g.outs[i].po)∧aZ g g.edges.length i g.outs[i].ac g.outs[i].po=false:=fun i hi=>by
  obtain⟨x,hx,e,h0,h1,ht⟩:=fF (h.out i hi).2;exact⟨⟨x,hx,e,h0,h1⟩,ht⟩
 have nA:=fun i hi=>gk.1 (h.act i hi).1
 have nI:=fun i hi=>gk.1 (h.inp i hi).1
 have nO:=fun i hi=>gk.1 (h.out i hi).1
 refine⟨⟨h.nm,h.na1,h.na,h.ne,h.ni,h.no,?_,?_,?_,?_,?_,?_,?_,?_⟩,⟨?_,?_⟩⟩
 ·intro s hs;simp only[pg,List.mem_append,List.mem_map] at hs;rcases hs with⟨x,hx,rfl⟩|⟨x,hx,rfl⟩|⟨x,hx,rfl⟩<;>obtain⟨i,hi,rfl⟩:=List.getElem_of_mem hx
  ·exact(nA i hi).1
  ·exact(nI i hi).1
  ·exact(nO i hi).1
 ·simp only[pg,List.map_append,List.map_map];refine kD (il fun i k hi hk=>?_) (kD (il fun i k hi hk=>?_) (il fun i k hi hk=>?_) ?_) ?_
  ·exact(nA i hi).2 _ (by simp only[aw,List.take_zero,List.map_nil,List.append_nil,List.mem_map];exact⟨_,List.mem_take_iff_getElem.2 ⟨k,by omega,rfl⟩,rfl⟩)
  ·exact(nI i hi).2 _ (by simp only[aw,List.take_zero,List.map_nil,List.append_nil,List.mem_append,List.mem_map];exact .inr ⟨_,List.mem_take_iff_getElem.2 ⟨k,by omega,rfl⟩,rfl⟩)
  ·exact(nO i hi).2 _ (by simp only[aw,List.mem_append,List.mem_map];exact .inr (.inr ⟨_,List.mem_take_iff_getElem.2 ⟨k,by omega,rfl⟩,rfl⟩))
  ·intro a ha b hb;obtain⟨x,hx,rfl⟩:=List.mem_map.1 ha;obtain⟨y,hy,rfl⟩:=List.mem_map.1 hb;obtain⟨i,hi,rfl⟩:=List.getElem_of_mem hy;exact(nO i hi).2 _ (by simp only[aw,List.take_length,List.mem_append,List.mem_map];exact .inr (.inl ⟨_,hx,rfl⟩))
  ·intro a ha b hb;obtain⟨x,hx,rfl⟩:=List.mem_map.1 ha;rcases List.mem_append.1 hb with hb|hb<;>obtain⟨y,hy,rfl⟩:=List.mem_map.1 hb<;>obtain⟨i,hi,rfl⟩:=List.getElem_of_mem hy
   ·exact(nI i hi).2 _ (by simp only[aw,List.take_length,List.mem_append,List.mem_map];exact .inl ⟨_,hx,rfl⟩)
   ·exact(nO i hi).2 _ (by simp only[aw,List.take_length,List.mem_append,List.mem_map];exact .inl ⟨_,hx,rfl⟩)
 ·intro x hx;obtain⟨i,hi,rfl⟩:=List.getElem_of_mem hx;exact(h.act i hi).2
 ·intro x hx;obtain⟨i,hi,rfl⟩:=List.getElem_of_mem hx;exact(h.edge i hi).2.2
 ·refine kD (il fun i k hi hk e=>?_) (il fun i k hi hk e=>?_) ?_
  ·have:=(hE1 i hi).2;unfold aZ at this;have:=dG (Bool.or_eq_false_iff.1 this).1 k (by omega) hk;simp at e this;exact this e.1 e.2
  ·have:=(hO i hi).2;unfold aZ at this;have:=dG (Bool.or_eq_false_iff.1 this).2 k (by omega) hk;simp at e this;exact this e.1 e.2
  ·intro a ha b hb e;obtain⟨x,hx,rfl⟩:=List.mem_map.1 ha;obtain⟨y,hy,rfl⟩:=List.mem_map.1 hb;obtain⟨i,hi,rfl⟩:=List.getElem_of_mem hy;obtain⟨k,hk,rfl⟩:=List.getElem_of_mem hx;have:=(hO i hi).2;unfold aZ at this;have:=dG (Bool.or_eq_false_iff.1 this).1 k (by omega) hk;simp at e this;exact this e.1 e.2
 ·refine kD (il fun i k hi hk e=>?_) (il fun i k hi hk e=>?_) ?_
  ·have:=(hE2 i hi).2;unfold bZ at this;have:=dG (Bool.or_eq_false_iff.1 this).1 k (by omega) hk;simp at e this;exact this e.1 e.2
  ·have:=(hI i hi).2;unfold bZ at this;have:=dG (Bool.or_eq_false_iff.1 this).2 k (by omega) hk;simp at e this;exact this e.1 e.2
  ·intro a ha b hb e;obtain⟨x,hx,rfl⟩:=List.mem_map.1 ha;obtain⟨y,hy,rfl⟩:=List.mem_map.1 hb;obtain⟨i,hi,rfl⟩:=List.getElem_of_mem hy;obtain⟨k,hk,rfl⟩:=List.getElem_of_mem hx;have:=(hI i hi).2;unfold bZ at this;have:=dG (Bool.or_eq_false_iff.1 this).1 k (by omega) hk;simp at e this;exact this e.1 e.2
 ·intro q hq;rcases List.mem_append.1 hq with hq|hq<;>obtain⟨x,hx,rfl⟩:=List.mem_map.1 hq<;>obtain⟨i,hi,rfl⟩:=List.getElem_of_mem hx
  ·exact(hE1 i hi).1
  ·exact(hO i hi).1
 ·intro q hq;rcases List.mem_append.1 hq with hq|hq<;>obtain⟨x,hx,rfl⟩:=List.mem_map.1 hq<;>obtain⟨i,hi,rfl⟩:=List.getElem_of_mem hx
  ·exact(hE2 i hi).1
  ·exact(hI i hi).1
 ·exact fun k hk p hp=>(gz.1 (h.opn k hk)).2 p hp
 ·exact fun k hk p hp=>(gz.1 (h.opn k hk)).1 p hp
theorem Fair.find {g:Gr} (h:Fair g):(Cov g->(bz g).1=0)∧(¬Cov g->(bz g).1=87):=by
 have hA:∀i (hi:i<g.acts.length),(fo g i g.acts[i]).1=0:=fun i hi=>by
  have hn:cP (aw g i 0 0) g.acts[i].name=0:=gk.2 ⟨h.nms _ (by simp only[pg,List.mem_append,List.mem_map];exact .inl ⟨_,List.getElem_mem hi,rfl⟩),fun t ht=>by
   simp only[aw,List.take_zero,List.map_nil,List.append_nil,List.mem_map] at ht;obtain⟨x,hx,rfl⟩:=ht;obtain⟨k,hk,rfl⟩:=List.mem_take_iff_getElem.1 hx;have hd:=h.nmd;simp only[pg,List.map_append,List.map_map] at hd;exact fV (eY hd).1 i k hi (by omega)⟩
  unfold fo;rw[if_neg (fun h=>h hn)];exact h.shp _ (List.getElem_mem hi)
 have od:=eY (show(g.edges.map (fun x=>(x.f,x.fp))++g.outs.map (fun x=>(x.ac,x.po))).Nodup from h.od);have idn:=eY (show(g.edges.map (fun x=>(x.t,x.tp))++g.ins.map (fun x=>(x.ac,x.po))).Nodup from h.idn);have hE:∀i (hi:i<g.edges.length),(dd g i g.edges[i]).1=0:=fun i hi=>by
  have h1:dp g cr (aZ g i 0 g.edges[i].f g.edges[i].fp) g.edges[i].f g.edges[i].fp=0:=by
   refine kw (h.orr _ (List.mem_append.2 (.inl (List.mem_map.2 ⟨_,List.getElem_mem hi,rfl⟩)))) ?_;unfold aZ;simp only[List.take_zero,List.any_nil,Bool.or_false];refine dQ fun k hk hki=>?_
   have:=fV od.1 i k hi hki;simpa using this
  have h2:dp g nIn (bZ g i 0 g.edges[i].t g.edges[i].tp) g.edges[i].t g.edges[i].tp=0:=by
   refine kw (h.irr _ (List.mem_append.2 (.inl (List.mem_map.2 ⟨_,List.getElem_mem hi,rfl⟩)))) ?_;unfold bZ;simp only[List.take_zero,List.any_nil,Bool.or_false];refine dQ fun k hk hki=>?_
   have:=fV idn.1 i k hi hki;simpa using this
  have h3:=h.ln _ (List.getElem_mem hi);unfold dd;rw[if_neg (fun h=>h h1),if_neg (fun h=>h h2),if_neg (by omega)]
 have hI:∀i (hi:i<g.ins.length),(inE g i g.ins[i]).1=0:=fun i hi=>by
  have hn:cP (aw g g.acts.length i 0) g.ins[i].name=0:=gk.2 ⟨h.nms _ (by simp only[pg,List.mem_append,List.mem_map];exact .inr (.inl ⟨_,List.getElem_mem hi,rfl⟩)),fun t ht=>by
   have hd:=h.nmd;simp only[pg,List.map_append,List.map_map] at hd;have hd1:=eY hd;have hd2:=eY hd1.2.1;simp only[aw,List.take_zero,List.map_nil,List.append_nil,List.take_length,List.mem_append,List.mem_map] at ht;rcases ht with⟨x,hx,rfl⟩|⟨x,hx,rfl⟩
   ·exact hd1.2.2 _ (List.mem_map.2 ⟨x,hx,rfl⟩) _ (List.mem_append.2 (.inl (List.mem_map.2 ⟨_,List.getElem_mem hi,rfl⟩)))
   ·obtain⟨k,hk,rfl⟩:=List.mem_take_iff_getElem.1 hx;exact fV hd2.1 i k hi (by omega)⟩
  have h2:dp g nIn (bZ g g.edges.length i g.ins[i].ac g.ins[i].po) g.ins[i].ac g.ins[i].po=0:=by
   refine kw (h.irr _ (List.mem_append.2 (.inr (List.mem_map.2 ⟨_,List.getElem_mem hi,rfl⟩)))) ?_;unfold bZ;rw[Bool.or_eq_false_iff];refine⟨dQ fun k hk hki=>?_,dQ fun k hk hki=>?_⟩
   ·have:=idn.2.2 _ (List.mem_map.2 ⟨_,List.getElem_mem hk,rfl⟩) _ (List.mem_map.2 ⟨_,List.getElem_mem hi,rfl⟩);simpa using this
   ·have:=fV idn.2.1 i k hi hki;simpa using this
  unfold inE;rw[if_neg (fun h=>h hn)];exact h2
 have hO:∀i (hi:i<g.outs.length),(fu g i g.outs[i]).1=0:=fun i hi=>by
  have hn:cP (aw g g.acts.length g.ins.length i) g.outs[i].name=0:=gk.2 ⟨h.nms _ (by simp only[pg,List.mem_append,List.mem_map];exact .inr (.inr ⟨_,List.getElem_mem hi,rfl⟩)),fun t ht=>by
   have hd:=h.nmd;simp only[pg,List.map_append,List.map_map] at hd;have hd1:=eY hd;have hd2:=eY hd1.2.1;simp only[aw,List.take_length,List.mem_append,List.mem_map] at ht;rcases ht with⟨x,hx,rfl⟩|⟨x,hx,rfl⟩|⟨x,hx,rfl⟩
   ·exact hd1.2.2 _ (List.mem_map.2 ⟨x,hx,rfl⟩) _ (List.mem_append.2 (.inr (List.mem_map.2 ⟨_,List.getElem_mem hi,rfl⟩)))
   ·exact hd2.2.2 _ (List.mem_map.2 ⟨x,hx,rfl⟩) _ (List.mem_map.2 ⟨_,List.getElem_mem hi,rfl⟩)
   ·obtain⟨k,hk,rfl⟩:=List.mem_take_iff_getElem.1 hx;exact fV hd2.2.1 i k hi (by omega)⟩
  have h2:dp g cr (aZ g g.edges.length i g.outs[i].ac g.outs[i].po) g.outs[i].ac g.outs[i].po=0:=by
   refine kw (h.orr _ (List.mem_append.2 (.inr (List.mem_map.2 ⟨_,List.getElem_mem hi,rfl⟩)))) ?_;unfold aZ;rw[Bool.or_eq_false_iff];refine⟨dQ fun k hk hki=>?_,dQ fun k hk hki=>?_⟩
   ·have:=od.2.2 _ (List.mem_map.2 ⟨_,List.getElem_mem hk,rfl⟩) _ (List.mem_map.2 ⟨_,List.getElem_mem hi,rfl⟩);simpa using this
   ·have:=fV od.2.1 i k hi hki;simpa using this
  unfold fu;rw[if_neg (fun h=>h hn)];exact h2
 have hhd:(e7 g).1=0:=by
  have:=h.nm;have:=h.na1;have:=h.na;have:=h.ne;have:=h.ni;have:=h.no;unfold e7 iG;rw[if_neg (by simp[h.nm]),if_neg (by omega),if_neg (by omega),if_neg (by omega),if_neg (by omega),if_neg (by omega)]
 have hT:bz g=fT (aD (eH g) 0 g.acts) 1 (0,0,0,0):=by
  rw[jt,if_neg (fun h=>h hhd)];unfold mj;rw[eI _ _ (fun j hj=>by rw[Nat.zero_add];exact hA j hj),eI _ _ (fun j hj=>by rw[Nat.zero_add];exact hE j hj),eI _ _ (fun j hj=>by rw[Nat.zero_add];exact hI j hj),eI _ _ (fun j hj=>by rw[Nat.zero_add];exact hO j hj)];rfl
 rw[hT];constructor
 ·intro hc;rw[eI]
  ·rfl
  ·intro j hj;rw[Nat.zero_add];unfold eH;rw[gz.2 ⟨fun p hp=>hc.i j hj p hp,fun p hp=>hc.o j hj p hp⟩];rfl
 ·intro hc;cases hf:aD (eH g) 0 g.acts with
  |some ked=>
   obtain⟨k,e,d⟩:=ked;obtain⟨h1,x,h2⟩:=cj _ _ _ _ hf;unfold eH at h2;simp only[Prod.mk.injEq] at h2;simp only at h1;show e=87
   rw[h2.1] at h1 ⊢;split
   ·rfl
   ·rename_i h3;rw[if_neg h3] at h1;exact absurd rfl h1
  |none=>
   refine absurd ⟨fun k hk p hp=>?_,fun k hk p hp=>?_⟩ hc;all_goals
    have:=eq _ _ hf k hk;rw[Nat.zero_add] at this;unfold eH at this;have ho:e8 g k g.acts[k]=false:=by
     cases e:e8 g k g.acts[k] with
     |false=>rfl
     |true=>rw[e] at this;simp at this
   ·exact(gz.1 ho).2 p hp
   ·exact(gz.1 ho).1 p hp
theorem pz {g:Gr} (h:(bz g).1=0):Fair g∧Cov g:=(sG h).fair
theorem Fair.ends {g:Gr} (h:Fair g) {k:Nat} (hk:k<g.edges.length):(0<=g.edges[k].f∧g.edges[k].f<g.acts.length∧0<=g.edges[k].fp)∧(0<=g.edges[k].t∧g.edges[k].t<g.acts.length∧0<=g.edges[k].tp):=by
 obtain⟨a,ha,e1,e2,e3⟩:=h.orr (g.edges[k].f,g.edges[k].fp) (List.mem_append.2 (.inl (List.mem_map.2 ⟨_,List.getElem_mem hk,rfl⟩)));obtain⟨b,hb,f1,f2,f3⟩:=h.irr (g.edges[k].t,g.edges[k].tp) (List.mem_append.2 (.inl (List.mem_map.2 ⟨_,List.getElem_mem hk,rfl⟩)));simp only at e1 e2 f1 f2;omega
theorem Fair.edges {g:Gr} (h:Fair g) {j k:Nat} (hk:k<g.edges.length) (hj:j<k):¬((g.edges[j]'(by omega)).f=g.edges[k].f∧(g.edges[j]'(by omega)).fp=g.edges[k].fp)∧¬((g.edges[j]'(by omega)).t=g.edges[k].t∧(g.edges[j]'(by omega)).tp=g.edges[k].tp):=by
 have d1:=fV (eY (show(g.edges.map (fun x=>(x.f,x.fp))++g.outs.map (fun x=>(x.ac,x.po))).Nodup from h.od)).1 k j hk hj;have d2:=fV (eY (show(g.edges.map (fun x=>(x.t,x.tp))++g.ins.map (fun x=>(x.ac,x.po))).Nodup from h.idn)).1 k j hk hj;exact⟨fun e=>d1 (by rw[Prod.mk.injEq];exact e),fun e=>d2 (by rw[Prod.mk.injEq];exact e)⟩
theorem vJ (g:Gr):∀x∈dZ g,1<=x.kind∧x.kind<=4:=by
 intro x hx;unfold dZ at hx;simp only[List.mem_append,List.mem_map] at hx;rcases hx with((⟨y,_,rfl⟩|⟨y,_,rfl⟩)|⟨y,_,rfl⟩)|⟨y,_,rfl⟩<;>simp[eE,cT,i6,gA]
theorem sL (t:Int):(lf t).1.size<=20:=by
 unfold lf;split
 ·rename_i h;rcases gp h.1 h.2 with rfl|rfl|rfl|rfl|rfl|rfl|rfl|rfl|rfl|rfl|rfl<;>decide+kernel
 ·decide
theorem cK {s:ByteArray} (h:aQ s=true):s.size<=16:=by
 rw[<-cL];unfold aQ uT at h;cases hb:aB s with
 |nil=>simp
 |cons b r=>
  rw[hb] at h;simp only[Bool.and_eq_true,decide_eq_true_eq] at h;simp only[List.length_cons];omega
theorem te {s:Sk} {g:Gr} (h:s.bare=fs g) (hf:Fair g) (hw:GFew g):SLen s∧(∀x∈s.items,1<=x.kind∧x.kind<=4)∧s.items.length<=160∧(∀x∈s.items,x.xs.length<=1048576):=by
 have hi:s.items.map SIt.bare=dZ g:=congrArg Sk.items h;have hn:s.name=g.name:=congrArg Sk.name h;have hl:s.items.length=g.acts.length+g.edges.length+g.ins.length+g.outs.length:=by
  have:=congrArg List.length hi;simp only[dZ,List.length_map,List.length_append] at this;omega
 have hnm:∀a,(fR g a).size<=16:=fun a=>by
  unfold fR;by_cases ha:a.toNat<g.acts.length
  ·rw[List.getD_eq_getElem?_getD,List.getElem?_eq_getElem ha];exact cK (hf.nms _ (List.mem_append.2 (.inl (List.mem_map.2 ⟨_,List.getElem_mem ha,rfl⟩))))
  ·rw[List.getD_eq_getElem?_getD,List.getElem?_eq_none (by omega)];decide
 have hx:∀x∈dZ g,x.xs.length<=1048576∧x.name.size<=16∧x.tag.size<=20∧x.fn.size<=16∧x.tn.size<=16:=by
  intro x hx;unfold dZ at hx;simp only[List.mem_append,List.mem_map] at hx;have h0:(⟨#[]⟩:ByteArray).size<=16:=by decide
  have h1:(⟨#[]⟩:ByteArray).size<=20:=by decide
  rcases hx with((⟨y,hy,rfl⟩|⟨y,hy,rfl⟩)|⟨y,hy,rfl⟩)|⟨y,hy,rfl⟩
  ·exact⟨hw.ax y hy,cK (hf.nms _ (List.mem_append.2 (.inl (List.mem_map.2 ⟨_,hy,rfl⟩)))),sL _,h0,h0⟩
  ·exact⟨hw.ex y hy,h0,h1,hnm _,hnm _⟩
  ·exact⟨by simp[i6],cK (hf.nms _ (List.mem_append.2 (.inr (List.mem_append.2 (.inl (List.mem_map.2 ⟨_,hy,rfl⟩)))))),h1,h0,hnm _⟩
  ·exact⟨by simp[gA],cK (hf.nms _ (List.mem_append.2 (.inr (List.mem_append.2 (.inr (List.mem_map.2 ⟨_,hy,rfl⟩)))))),h1,hnm _,h0⟩
 have hb:∀x∈s.items,x.bare∈dZ g:=fun x hx=>hi▸List.mem_map_of_mem hx
 have:=hf.na;have:=hf.ne;have:=hf.ni;have:=hf.no;refine⟨⟨by omega,by rw[hn];have:=cK hf.nm;omega,fun x hm=>?_⟩,fun x hm=>by have:=vJ g _ (hb x hm);exact this,by omega,fun x hm=>(hx _ (hb x hm)).1⟩;obtain⟨a,b,c,d,e⟩:=hx _ (hb x hm);have a':x.xs.length<=1048576:=a;have b':x.name.size<=16:=b;have c':x.tag.size<=20:=c;have d':x.fn.size<=16:=d;have e':x.tn.size<=16:=e;omega
end Go.Proofs.YtnedmonlofbahaaGreatDoor
namespace Go.Proofs.YtnedmonlofbahaaGreatDoor
open Go Go.RowKit
set_option linter.all false
theorem qd (ao:Option Addr) (c:Nat) (xs:List Int) (w:World) (hx:ar w ao (Is xs)) (hn:xs.length*8<=140737488351232):
  Calls Tryz.prog 79 #[.slice ao xs.length c] w fun e w'=>∃ao' c',e= .returned (.slice ao' xs.length c')∧bc w' w.heap.size ao' c' xs∧New w w':=by
 obtain⟨i0,hi,hz0,hz1,hz2⟩:=info_parts Tryz.infoInt;go_enter Tryz.func79,Tryz.ntmps79;go_wp2_with (at_builtin;refine aR rfl _ _ 61 rfl w.heap.size 3 i0 (.int .i64 0) 1 8 Tryz.underlying61 hi hz0 hz1 hz2 rfl (by decide) none 0 0 [] rfl (World.ownsRow_nil _ _ _ _) ao xs.length c (Is xs) rfl (by simp) hx (cG _ _) (by unfold maxLen;omega) (by omega) (Nat.le_refl _) ?_);intro ao' c' w' az hk' hmv _;go_wp2
 go_ret
 exact⟨ao',c',by simp,by unfold bc;simpa using az,(New.refl w).keeps hk' (fun i hi ⟨a,ha,hb⟩=>by cases ha)⟩
end Go.Proofs.YtnedmonlofbahaaGreatDoor
