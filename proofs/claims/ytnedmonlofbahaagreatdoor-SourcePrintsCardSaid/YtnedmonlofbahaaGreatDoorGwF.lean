/-
  GrQ, GrR, GrS, GrT: what is wanted of them.
-/
import Derived.Test.YtnedmonlofbahaaGreatDoorGwE
namespace Go.Proofs.YtnedmonlofbahaaGreatDoor
open Go Go.RowKit Go.Joins
set_option linter.all false
def jf (l:List Bool):Bool:=l.any (fun b=> !b)
theorem rR {l:List Bool} {j:Nat} (hj:j<l.length) (h:l[j]=false):jf l=true:=by
 unfold jf;exact List.any_eq_true.2 ⟨l[j],List.getElem_mem hj,by simp[h]⟩
theorem pV {l:List Bool} (h:∀j (hj:j<l.length),l[j]=true):jf l=false:=by
 unfold jf;rw[List.any_eq_false];intro b hb;obtain⟨j,hj,rfl⟩:=List.getElem_of_mem hb;simp[h j hj]
theorem j9 (n:Nat) (T:Nat->Bool):jf ((List.range n).map T)=(List.range n).any (fun k=> !T k):=by
 unfold jf;rw[List.any_map];rfl
def dy (g:Gr) (i:Nat) (x:GAct):Int×Int:=(if dP g i x then 87 else 0,0)
theorem pN {g:Gr} {n:GAct->Nat} {T:Int->Int->Bool} {L:List (Nat×List Bool)} (h:L.map (·.2)=bQ g n T) {a:Nat} (ha:a<g.acts.length) (hl:a<L.length):L[a].2=(List.range (n g.acts[a])).map fun(p:Nat)=>T a p:=by
 have:=kV h ha
 rwa [List.getD_eq_getElem?_getD,List.getElem?_eq_getElem hl] at this
set_option maxRecDepth 100000 in
set_option maxHeartbeats 16000000 in
theorem qg (w:World) (B C M:Nat) (g:Gr) (ns:List ByteArray) (ia:Option Addr) (ic:Nat) (IL:List (Nat×List Bool)) (oa:Option Addr) (oc:Nat) (OL:List (Nat×List Bool)) (hal:g.acts.length<=32)
  (h:Chk w B C M g ns ia ic IL oa oc OL) (hIL:IL.map (·.2)=bQ g nIn (bG g g.edges.length g.ins.length)) (hOL:OL.map (·.2)=bQ g bS (aU g g.edges.length g.outs.length)):
  Calls Tryz.prog 87 #[.pointer (some ⟨C,0,none⟩)] w fun e w'=>cv (aL (dy g) 0 g.acts) 1 (fun _=>True) e w'∧KP B w w':=by
 obtain⟨⟨c0,c1,c2,c3,c4,-,-,-⟩,-,hCl⟩:=cH h.blk;have HI:=Lib.hid hIL;have HO:=Lib.hid hOL;clear hIL hOL;go_enter Tryz.func87,Tryz.ntmps87;go_wp2_with fail;have k0:New w (w.alloc (.cells #[.int .u8 0,I 0,I 0] 85)):=(New.refl w).alloc _;have hbx:(w.alloc (.cells #[.int .u8 0,I 0,I 0] 85)).heap[w.heap.size]? =some (.cells #[.int .u8 0,I 0,I 0] 85 (0,0)):=heap_alloc_new w _;generalize(w.alloc (.cells #[.int .u8 0,I 0,I 0] 85))=v0 at k0 hbx ⊢;clear c0 c1 c2 c3 c4;have hCh:=h.new k0;clear h hCl;go_loopw [15] (fun i wr=>∃(k:Nat),k<=g.acts.length∧i= .int .i64 k∧
   Hid ((∀j (hj:j<g.acts.length),j<k->(dy g j g.acts[j]).1=0)∧wr.heap[w.heap.size]? =some (.cells #[.int .u8 0,I 0,I 0] 85 (0,0))∧New v0 wr)) (fun i _=>g.acts.length-(intOf i).toNat)
 case atStart=>exact⟨0,by omega,rfl,Lib.hid ⟨fun j hj hjk=>by omega,hbx,New.refl _⟩⟩
 case round=>
  clear hbx;obtain⟨k,hk,rfl,HR⟩:=hrel;obtain⟨hE,hb,hNr⟩:=HR.out;have HE:=Lib.hid hE;have HB:=Lib.hid hb;clear hE hb HR;have hC:=hCh.new hNr;have hKB:=(KXg.of_new (p:=ui) (B:=B) k0).trans (KXg.of_new hNr);by_cases hk1:k<g.acts.length
  ·have hkI:(k:Int)<(g.acts.length:Int):=by omega
   have hkd:decide (k<g.acts.length)=true:=decide_eq_true hk1;have hli:=eF HI.out;have hlo:=eF HO.out;have hiI:(k:Int)<(IL.length:Int):=by omega
   have hoI:(k:Int)<(OL.length:Int):=by omega
   have hi1:k<IL.length:=by omega
   have ho1:k<OL.length:=by omega
   have HF:Hid ((dy g k g.acts[k]).1≠0->aL (dy g) 0 g.acts=some (k,dy g k g.acts[k])):=Lib.hid (fun h=>ff hk1 HE.out h);have HE2:Hid ((dy g k g.acts[k]).1=0->∀j (hj:j<g.acts.length),j<k+1->(dy g j g.acts[j]).1=0):=Lib.hid (fun h j hj hjk=>by
    by_cases e:j=k
    ·subst e;exact h
    ·exact HE.out j hj (by omega))
   have hOE:Hid (dy g k g.acts[k]=(if jf IL[k].2||jf OL[k].2 then 87 else 0,0)):=Lib.hid (by
    unfold dy dP;rw[pN HI.out hk1 hi1,pN HO.out hk1 ho1,j9,j9])
   have hgi:=(dG HI.out hal mo).2 _ (List.getElem_mem hi1);have hgo:=(dG HO.out hal kx).2 _ (List.getElem_mem ho1);obtain⟨⟨-,-,-,-,-,-,c6,c7⟩,-,hCl⟩:=cH hC.blk;have hrI:=Lib.hid (hC.gi.row _ (List.getElem_mem hi1));have hrO:=Lib.hid (hC.go.row _ (List.getElem_mem ho1));obtain⟨b1,o1,hia,t1⟩:=(am.of_owns hC.gi.tab).at (i:=k) (by simpa using hi1);obtain⟨b2,o2,hoa,t2⟩:=(am.of_owns hC.go.tab).at (i:=k) (by simpa using ho1);simp only[List.getElem_map] at t1 t2;have hb1:b1<wr.heap.size:=World.block_lt_of_cell? wr _ t1;have hb2:b2<wr.heap.size:=World.block_lt_of_cell? wr _ t2;rw[hia] at c6;rw[hoa] at c7;clear hC hli hlo hia hoa HE;generalize dy g k g.acts[k]=oF at HF HE2 hOE;generalize IL[k]=r1 at t1 hrI hgi hOE;generalize OL[k]=r2 at t2 hrO hgo hOE;go_wp2_with fail;have hdr:New wr wr.drew:=(New.refl wr).drew;have hS0:(fun w':World=>w'.cell? ⟨C,6,none⟩=some (.slice (some ⟨b1,o1,none⟩) IL.length ic)∧w'.cell? ⟨C,7,none⟩=some (.slice (some ⟨b2,o2,none⟩) OL.length oc)∧w'.cell? ⟨b1,o1+k,none⟩=some (e8 r1)∧w'.cell? ⟨b2,o2+k,none⟩=some (e8 r2)∧C<w'.heap.size∧b1<w'.heap.size∧b2<w'.heap.size) wr.drew:=⟨hdr.cell c6,hdr.cell c7,hdr.cell t1,hdr.cell t2,hCl,hb1,hb2⟩
   clear c6 c7 t1 t2 hCl hb1 hb2;refine ar (fun w':World=>w'.cell? ⟨C,6,none⟩=some (.slice (some ⟨b1,o1,none⟩) IL.length ic)∧w'.cell? ⟨C,7,none⟩=some (.slice (some ⟨b2,o2,none⟩) OL.length oc)∧w'.cell? ⟨b1,o1+k,none⟩=some (e8 r1)∧w'.cell? ⟨b2,o2+k,none⟩=some (e8 r2)∧C<w'.heap.size∧b1<w'.heap.size∧b2<w'.heap.size) [] (by kernel_rfl) hS0 ?_;refine ae 0 hS0 ?_;refine ae 1 hS0 ?_;refine ae 2 hS0 ?_;refine ae 3 hS0 ?_;refine ae 4 hS0 ?_;refine ae 5 hS0 ?_;refine ae 6 hS0 ?_;refine ae 7 hS0 ?_;refine ae 8 hS0 ?_;refine ae 9 hS0 ?_;refine ae 10 hS0 ?_;refine ae 11 hS0 ?_;refine ae 12 hS0 ?_;refine ae 13 hS0 ?_;refine ae 16 hS0 ?_;refine ah 14 ?_;intro K hK;(try simp only[Act.put,sLs])
   go_simp;have kz1:New wr.drew (wr.drew.alloc (.cells #[e8 r1,e8 r2] 200)):=(New.refl _).alloc _;have hS1:(fun w':World=>w'.cell? ⟨C,6,none⟩=some (.slice (some ⟨b1,o1,none⟩) IL.length ic)∧w'.cell? ⟨C,7,none⟩=some (.slice (some ⟨b2,o2,none⟩) OL.length oc)∧w'.cell? ⟨b1,o1+k,none⟩=some (e8 r1)∧w'.cell? ⟨b2,o2+k,none⟩=some (e8 r2)∧C<w'.heap.size∧b1<w'.heap.size∧b2<w'.heap.size) (wr.drew.alloc (.cells #[e8 r1,e8 r2] 200)):=by
    obtain⟨s1,s2,s3,s4,s5,s6,s7⟩:=hS0;have:=kz1.size;exact⟨kz1.cell s1,kz1.cell s2,kz1.cell s3,kz1.cell s4,by omega,by omega,by omega⟩
   refine hK _ _ (fun _=>hS1) ?_;clear hK K;refine ah 15 ?_;intro K hK;(try simp only[Act.put,sLs])
   go_simp;refine hK _ _ (fun _=>hS1) ?_;clear hK K hS1 kz1;refine aB (by kernel_rfl) ?_;(try simp only[Act.put,sLs])
   (try simp only[Exit.then])
   have kz:New wr (wr.alloc (.cells #[e8 r1,e8 r2] 200)).drew:=((New.refl wr).alloc _).drew;have hz:(wr.alloc (.cells #[e8 r1,e8 r2] 200)).drew.heap[wr.heap.size]? =some (.cells #[e8 r1,e8 r2] 200 (0,0)):=heap_alloc_new wr _;generalize(wr.alloc (.cells #[e8 r1,e8 r2] 200)).drew=v1 at kz hz ⊢;generalize wr.heap.size=Z at hz ⊢;replace hrI:=Lib.hid (Keeps.heap kz hrI.out (fun h=>h));replace hrO:=Lib.hid (Keeps.heap kz hrO.out (fun h=>h));replace HB:=Lib.hid (Keeps.heap kz HB.out (fun h=>h));replace hKB:=hKB.trans (KXg.of_new kz);replace hNr:=hNr.trans kz;clear kz hdr hS0;have HZ:=Lib.hid hz;clear hz;go_wp2_with fail;go_loop [34] (fun i=>∃j:Nat,j<=2∧i= .int .i64 j∧Hid ((1<=j->jf r1.2=false)∧(2<=j->jf r2.2=false))) (fun i=>2-(intOf i).toNat)
   case atStart=>exact⟨0,by omega,rfl,Lib.hid ⟨fun h=>by omega,fun h=>by omega⟩⟩
   case round=>
    obtain⟨j,hj,rfl,HJ⟩:=hrel;by_cases hj2:j<2
    ·have hjI:(j:Int)<2:=by omega
     have hjd:decide (j<2)=true:=decide_eq_true hj2;have hrow:∃r:Nat×List Bool,v1.cell? ⟨Z,j,none⟩=some (.slice (some ⟨r.1,0,none⟩) r.2.length r.2.length)∧Hid (v1.heap[r.1]? =some (.cells (r.2.map Value.bool).toArray 4 (0,0)))∧r.2.length<=64∧Hid (jf r.2=true->oF=(87,0))∧Hid (jf r.2=false->((1<=j+1->jf r1.2=false)∧(2<=j+1->jf r2.2=false))):=by
      by_cases e0:j=0
      ·subst e0;exact⟨r1,by rw[cell_of_block HZ.out 0];rfl,hrI,hgi,Lib.hid (fun h=>by rw[hOE.out,h];rfl),Lib.hid (fun h=>⟨fun _=>h,fun h2=>by omega⟩)⟩
      ·obtain rfl:j=1:=by omega
       exact⟨r2,by rw[cell_of_block HZ.out 1];rfl,hrO,hgo,Lib.hid (fun h=>by rw[hOE.out,h];simp),Lib.hid (fun h=>⟨fun _=>HJ.out.1 (by omega),fun _=>h⟩)⟩
     obtain⟨r,hrc,hrb,hrl,hbad,hgood⟩:=hrow;have hZl:Z<v1.heap.size:=World.block_lt_of_cell? v1 _ hrc;clear HJ hrI hrO hgi hgo;go_wp2_with fail;go_loop [40] (fun i=>∃m:Nat,m<=r.2.length∧i= .int .i64 m∧Hid (∀q (hq:q<r.2.length),q<m->r.2[q]=true)) (fun i=>r.2.length-(intOf i).toNat)
     case atStart=>exact⟨0,by omega,rfl,Lib.hid (fun q hq hq0=>by omega)⟩
     case round=>
      obtain⟨m,hm,rfl,HM⟩:=hrel;by_cases hm1:m<r.2.length
      ·have hmI:(m:Int)<(r.2.length:Int):=by omega
       have hmd:decide (m<r.2.length)=true:=decide_eq_true hm1;have hbit:v1.cell? ⟨r.1,m,none⟩=some (.bool r.2[m]):=by
        rw[cell_of_block hrb.out m];simp[hm1]
       have hrl2:r.1<v1.heap.size:=World.block_lt_of_cell? v1 _ hbit;cases hq:r.2[m] with
       |true=>
        rw[hq] at hbit;have HM2:Hid (∀q (hq:q<r.2.length),q<m+1->r.2[q]=true):=Lib.hid (fun q hq2 hqm=>by
         by_cases e:q=m
         ·subst e;exact hq
         ·exact HM.out q hq2 (by omega))
        clear hq HM;go_wp2_with fail;go_round
        case rel=>exact⟨m+1,by omega,by go_num,HM2⟩
        case measure=>simp[intOf];omega
       |false=>
        rw[hq] at hbit;have hO:=Lib.hid (hbad.out (rR hm1 hq));have HF2:=Lib.hid (HF.out (by rw[hO.out];decide));clear hq HM hbad hgood HE2 HF hOE;obtain⟨⟨r0,r1,r2⟩,⟨f0,f1,f2⟩,hBB⟩:=aK HB.out;go_wp2_with fail;exact bodyPost_ret (v:= .tuple #[I 87,.agg #[.int .u8 1,I k,I 0]]) (by simp[results,Tryz.results87,go_sem,r0,r1,r2,f0,f1,f2,hBB]) rfl ⟨by unfold cv;rw[HF2.out,hO.out];rfl,((hKB.setCell (Nat.le_refl _) _).setCell (Nat.le_refl _) _).setCell (Nat.le_refl _) _⟩
      ·have hmd:decide (m<r.2.length)=false:=decide_eq_false hm1;have HJ2:=Lib.hid (hgood.out (pV (fun q hq=>HM.out q hq (by omega))));clear HM hgood hbad hm hm1;go_wp2_with fail;go_round
       case rel=>exact⟨j+1,by omega,by go_num,HJ2⟩
       case measure=>simp[intOf];omega
    ·have hjd:decide (j<2)=false:=decide_eq_false hj2;have hjI:(2:Int)<=(j:Int):=by omega
     have hjI2:decide ((j:Int)<2)=false:=decide_eq_false (by omega);have hO:Hid (oF=(0,0)):=Lib.hid (by rw[hOE.out,HJ.out.1 (by omega),HJ.out.2 (by omega)];rfl);have HG2:=Lib.hid (HE2.out (by rw[hO.out]));clear HJ hOE HE2 HF hj2 hj;go_wp2_with fail;go_roundw
     case rel=>exact⟨k+1,by omega,by go_num,Lib.hid ⟨HG2.out,HB.out,hNr⟩⟩
     case measure=>simp[intOf];omega
  ·have hke:k=g.acts.length:=by omega
   have hkd:decide (k<g.acts.length)=false:=decide_eq_false hk1;rw[hke] at HE;have HFN:Hid (aL (dy g) 0 g.acts=none):=Lib.hid (fO HE.out);clear HE hke hk hk1 hC;obtain⟨⟨r0,r1,r2⟩,⟨f0,f1,f2⟩,hBB⟩:=aK HB.out;go_wp2_with fail;exact bodyPost_ret (v:= .tuple #[I 0,.agg #[.int .u8 0,I 0,I 0]]) (by simp[results,Tryz.results87,go_sem,r0,r1,r2,f0,f1,f2,hBB]) rfl ⟨by unfold cv;rw[HFN.out];exact⟨rfl,trivial⟩,((hKB.setCell (Nat.le_refl _) _).setCell (Nat.le_refl _) _).setCell (Nat.le_refl _) _⟩
end Go.Proofs.YtnedmonlofbahaaGreatDoor
namespace Go.Proofs.YtnedmonlofbahaaGreatDoor
open Go Go.RowKit Go.Joins
set_option linter.all false
theorem iL {w:World} {ops:Array Oper} {o:Oper} {a:Act} {K:Act->World->Prop} {Q:Exit->Act->World->Prop} {E:Prop} {dec:Decidable (Region.wanted o (yielded ops a.tmps)=true)} (hgd:o.guard=none) (ho:o.op=Op.alloc 85)
  (h:K (a.put o.dst (.pointer (some ⟨w.heap.size,0,none⟩))) (w.alloc (.cells #[.int .u8 0,I 0,I 0] 85))):
  @ite Prop (Region.wanted o (yielded ops a.tmps)=true) dec (Oper.wp Tryz.prog o a w K Q) E:=by
 have hw:Region.wanted o (yielded ops a.tmps)=true:=by simp[Region.wanted,hgd]
 rw[if_pos hw];have hr:(Instr.alloc 85 true (.tuple #[])).run Tryz.prog w= .ok (.pointer (some ⟨w.heap.size,0,none⟩)) (w.alloc (.cells #[.int .u8 0,I 0,I 0] 85)):=by kernel_rfl
 unfold Oper.wp execOp;simp only[ho,Sem.run_bind,Sem.run_pure,Result.andThen_ok,hr];exact h
def Res (s:Option (Nat×Int×Int)) (kd:Int) (ok:World->Prop) (x k i d:Int) (w':World):Prop:=match s with
 |some (i',x',d')=>x=x'∧k=kd∧i=i'∧d=d'
 |none=>x=0∧k=0∧i=0∧d=0∧ok w'
theorem gL {s:Option (Nat×Int×Int)} {kd:Int} {ok:World->Prop} {e:Ending} {w':World} (h:cv s kd ok e w'):∃x k i d,e= .returned (.tuple #[I x,.agg #[.int .u8 k,I i,I d]])∧Res s kd ok x k i d w':=by
 cases s with
 |some r=>obtain⟨i,x,d⟩:=r;exact⟨x,kd,i,d,h,rfl,rfl,rfl,rfl⟩
 |none=>exact⟨0,0,0,0,h.1,rfl,rfl,rfl,rfl,h.2⟩
theorem Res.to {s:Option (Nat×Int×Int)} {kd:Int} {ok:World->Prop} {x k i d:Int} {w w':World} (h:Res s kd ok x k i d w) (hok:ok w->ok w'):Res s kd ok x k i d w':=by
 cases s with
 |some r=>exact h
 |none=>exact⟨h.1,h.2.1,h.2.2.1,h.2.2.2.1,hok h.2.2.2.2⟩
theorem gk {w:World} {P:Nat} {a b c:Value} (h:w.heap[P]? =some (.cells #[a,b,c] 85 (0,0))) (u v x:Value):(((w.setCell ⟨P,0,none⟩ u).setCell ⟨P,1,none⟩ v).setCell ⟨P,2,none⟩ x).heap[P]? =some (.cells #[u,v,x] 85 (0,0)):=by
 have:=block_setCell (i:=2) (block_setCell (i:=1) (block_setCell (i:=0) h u) v) x;simpa using this
theorem cp {w:World} {P:Nat} (u v x:Value):Keeps (fun k=>k=P) w (((w.setCell ⟨P,0,none⟩ u).setCell ⟨P,1,none⟩ v).setCell ⟨P,2,none⟩ x):=
 ((Keeps.setCell (S:=fun k=>k=P) w _ _ rfl).trans (Keeps.setCell (S:=fun k=>k=P) _ _ _ rfl) (fun _ _ h=>h)).trans (Keeps.setCell (S:=fun k=>k=P) _ _ _ rfl) (fun _ _ h=>h)
theorem bO {α:Type} {E:Nat->α->Int×Int} :∀(l:List α) (i k:Nat) (ed:Int×Int),aL E i l=some (k,ed)->ed.1≠0∧∃x,ed=E k x:=by
 intro l;induction l with
 |nil=>intro i k ed h;cases h
 |cons x r ih=>
  intro i k ed h;unfold aL at h;split at h
  ·cases h;exact⟨‹_›,x,rfl⟩
  ·exact ih _ _ _ h
def eB (r:Option (Nat×Int×Int)) (kd:Int) (rest:Int×Int×Int×Int):Int×Int×Int×Int:=match r with
 |some (i,e,d)=>(e,kd,i,d)
 |none=>rest
def ju (g:Gr):Int×Int×Int×Int:=
 eB (aL (dS g) 0 g.acts) 1 (eB (aL (cB g) 0 g.edges) 2 (eB (aL (inE g) 0 g.ins) 3 (eB (aL (dW g) 0 g.outs) 4 (eB (aL (dy g) 0 g.acts) 1 (0,0,0,0)))))
theorem qd {w:World} {B C M:Nat} {g:Gr} (hb:w.heap[C]? =some (.cells (om g M none 0 0 none 0 0) 149 (0,0))) (hm:cf w M 0 (fun _=>0)) (hC:B<=C) (hM:B<=M):Chk w B C M g [] none 0 [] none 0 []:=
 ⟨hb,hC,hM,hm.as (fun s=>by simp[j4]),⟨World.ownsRow_nil _ _ _ _,(fun r hr=>by cases hr),(fun r hr=>by cases hr),List.Pairwise.nil⟩,⟨World.ownsRow_nil _ _ _ _,(fun r hr=>by cases hr),(fun r hr=>by cases hr),List.Pairwise.nil⟩,
  (fun k hk=>by obtain⟨x,hx,_⟩:=hk;cases hx),(fun r hr=>by cases hr)⟩
theorem gS (g:Gr):aX g=if(gd g).1≠0 then gd g else ju g:=by
 have ht:ju g=(match aL (dS g) 0 g.acts with
  |some (i,e,_)=>(e,1,(i:Int),(0:Int))
  |none=>match aL (cB g) 0 g.edges with
   |some (i,e,d)=>(e,2,(i:Int),d)
   |none=>match aL (inE g) 0 g.ins with
    |some (i,e,d)=>(e,3,(i:Int),d)
    |none=>match aL (dW g) 0 g.outs with
     |some (i,e,d)=>(e,4,(i:Int),d)
     |none=>match aL (fun i x=>(if dP g i x then 87 else 0,0)) 0 g.acts with
      |some (i,e,_)=>(e,1,(i:Int),(0:Int))
      |none=>(0,0,0,0)):=by
  unfold ju eB;cases h1:aL (dS g) 0 g.acts with
  |some r=>
   obtain⟨i,e,d⟩:=r;obtain⟨-,x,hx⟩:=bO _ _ _ _ h1;rw[mb] at hx;simp only[Prod.mk.injEq] at hx;simp only[hx.2]
  |none=>
   cases h2:aL (cB g) 0 g.edges with
   |some r=>rfl
   |none=>
    cases h3:aL (inE g) 0 g.ins with
    |some r=>rfl
    |none=>
     cases h4:aL (dW g) 0 g.outs with
     |some r=>rfl
     |none=>
      simp only;have he:(fun i x=>(if dP g i x then 87 else 0,0))=dy g:=rfl;rw[he];cases h5:aL (dy g) 0 g.acts with
      |some r=>
       obtain⟨i,e,d⟩:=r;obtain⟨-,x,hx⟩:=bO _ _ _ _ h5;unfold dy at hx;simp only[Prod.mk.injEq] at hx;simp only[hx.2]
      |none=>rfl
 rw[ht];unfold aX gd gf;by_cases h0:aM g.name=false
 ·simp[h0]
 by_cases h1:g.acts.length=0
 ·simp[h0,h1]
 by_cases h2:32<g.acts.length
 ·simp[h0,h1,h2]
 by_cases h3:96<g.edges.length
 ·simp[h0,h1,h2,h3]
 by_cases h4:16<g.ins.length
 ·simp[h0,h1,h2,h3,h4]
 by_cases h5:16<g.outs.length
 ·simp[h0,h1,h2,h3,h4,h5]
 simp only[h0,h1,h2,h3,h4,h5,if_false,ne_eq,not_true_eq_false];rfl
theorem qu {g:Gr} (h:¬(gd g).1≠0):g.acts.length<=32∧g.ins.length<=16∧g.outs.length<=16:=by
 unfold gd gf at h;by_cases h0:aM g.name=false
 ·simp[h0] at h
 by_cases h1:g.acts.length=0
 ·simp[h0,h1] at h
 by_cases h2:32<g.acts.length
 ·simp[h0,h1,h2] at h
 by_cases h3:96<g.edges.length
 ·simp[h0,h1,h2,h3] at h
 by_cases h4:16<g.ins.length
 ·simp[h0,h1,h2,h3,h4] at h
 by_cases h5:16<g.outs.length
 ·simp[h0,h1,h2,h3,h4,h5] at h
 omega
set_option maxRecDepth 100000 in
set_option maxHeartbeats 32000000 in
theorem lz (w:World) (g:Gr) (hg:GrAt w g) (hl:GLen g):
  Calls Tryz.prog 45 #[g.v] w fun en w'=>en= .returned (gY (aX g))∧New w w':=by
 rw[gS];have hfew:=Lib.hid (@qu g);have HL:=Lib.hid hl;have HG:=Lib.hid hg;have hH:∀W (h:Chk W w.heap.size (w.heap.size+1+1+1) (w.heap.size+1+1) g [] none 0 [] none 0 []),Calls Tryz.prog 83 #[.pointer (some ⟨w.heap.size+1+1+1,0,none⟩)] W fun e w'=>e= .returned (gY (gd g))∧New W w':=fun W h=>qc W _ _ g _ _ _ _ _ _ h.blk hl
 obtain⟨hd,hhd⟩:∃hd,gd g=hd:=⟨_,rfl⟩
 rw[hhd] at hH hfew ⊢;obtain⟨⟨h0,h1,h2,h3⟩,rfl⟩:∃x,x=hd:=⟨_,rfl⟩
 clear hg hl hhd;obtain⟨r,hr⟩:∃r,(if((h0,h1,h2,h3):Int×Int×Int×Int).1≠0 then(h0,h1,h2,h3) else ju g)=r:=⟨_,rfl⟩
 rw[hr];have HR:=Lib.hid hr;clear hr;have hmm:= @run_makeMap Tryz.prog;simp only[gY,iQ] at hH;simp only[Gr.v,Gr.cs];go_enter Tryz.func45,Tryz.ntmps45;go_wp2_with fail;clear hmm;have na:New w (w.alloc (.cells g.cs 26)):=(New.refl w).alloc _;have ha:(w.alloc (.cells g.cs 26)).heap[w.heap.size]? =some (.cells g.cs 26 (0,0)):=heap_alloc_new w _;have sa:(w.alloc (.cells g.cs 26)).heap.size=w.heap.size+1:=ay _ _;simp only[Gr.cs] at na ha sa;generalize(w.alloc (.cells #[.string g.name,.slice g.aa g.acts.length g.ac,.slice g.ea g.edges.length g.ec,.slice g.ia g.ins.length g.ic,.slice g.oa g.outs.length g.oc] 26))=wa at na ha sa ⊢;have nb:New wa (wa.alloc (.cells #[.int .u8 0,I 0,I 0] 85)):=(New.refl wa).alloc _;have hb:(wa.alloc (.cells #[.int .u8 0,I 0,I 0] 85)).heap[wa.heap.size]? =some (.cells #[.int .u8 0,I 0,I 0] 85 (0,0)):=heap_alloc_new wa _;have sb:(wa.alloc (.cells #[.int .u8 0,I 0,I 0] 85)).heap.size=w.heap.size+1+1:=by rw[ay,sa]
 rw[sa] at hb;generalize(wa.alloc (.cells #[.int .u8 0,I 0,I 0] 85))=wb at nb hb sb ⊢;have nc:New wb (wb.alloc (.map #[] 0)):=(New.refl wb).alloc _;have hm:cf (wb.alloc (.map #[] 0)) wb.heap.size 0 (fun _=>0):=cf.made wb;have sc:(wb.alloc (.map #[] 0)).heap.size=w.heap.size+1+1+1:=by rw[ay,sb]
 rw[sb] at hm;generalize(wb.alloc (.map #[] 0))=wc at nc hm sc ⊢;have nd:New wc (wc.alloc (.cells (om g (w.heap.size+1+1) none 0 0 none 0 0) 149)):=(New.refl wc).alloc _;have hd:(wc.alloc (.cells (om g (w.heap.size+1+1) none 0 0 none 0 0) 149)).heap[wc.heap.size]? =some (.cells (om g (w.heap.size+1+1) none 0 0 none 0 0) 149 (0,0)):=heap_alloc_new wc _;rw[sc] at hd;simp only[om] at nd hd;generalize(wc.alloc (.cells #[.string g.name,.slice g.aa g.acts.length g.ac,.slice g.ea g.edges.length g.ec,.slice g.ia g.ins.length g.ic,.slice g.oa g.outs.length g.oc,.map (some (w.heap.size+1+1)),.slice none 0 0,.slice none 0 0] 149))=W0 at nd hd ⊢;have hC:Chk W0 w.heap.size (w.heap.size+1+1+1) (w.heap.size+1+1) g [] none 0 [] none 0 []:=qd hd (hm.new nd) (by omega) (by omega);have HX:=Lib.hid (Keeps.heap nd (Keeps.heap nc (Keeps.heap nb ha (fun h=>h)) (fun h=>h)) (fun h=>h));have HB:=Lib.hid (Keeps.heap nd (Keeps.heap nc hb (fun h=>h)) (fun h=>h));have hN:New w W0:=((na.trans nb).trans nc).trans nd;clear na nb nc nd ha hb hm hd sa sb sc;refine(hH W0 hC).mono ?_;rintro e W1 ⟨rfl,k1⟩;replace hC:=hC.new k1;replace HX:=Lib.hid (Keeps.heap k1 HX.out (fun h=>h));replace HB:=Lib.hid (Keeps.heap k1 HB.out (fun h=>h));replace hN:=hN.trans k1;clear k1 hH;by_cases e0:h0=0
 case neg=>
  have d0:(h0 != 0)=true:=by simp[e0]
  have HR2:=Lib.hid (show((h0,h1,h2,h3):Int×Int×Int×Int)=r by have:=HR.out;rwa [if_pos e0] at this);clear HR e0;go_wp2_with fail;have ks:New W1 (W1.alloc (.cells #[.int .u8 h1,I h2,I h3] 85)):=(New.refl W1).alloc _;have hp:(W1.alloc (.cells #[.int .u8 h1,I h2,I h3] 85)).heap[W1.heap.size]? =some (.cells #[.int .u8 h1,I h2,I h3] 85 (0,0)):=heap_alloc_new W1 _;have hPW:w.heap.size+1<W1.heap.size:=(Array.getElem?_eq_some_iff.1 HB.out).1;generalize(W1.alloc (.cells #[.int .u8 h1,I h2,I h3] 85))=W2 at ks hp ⊢;generalize W1.heap.size=P at hp hPW ⊢;replace HX:=Lib.hid (Keeps.heap ks HX.out (fun h=>h));replace HB:=Lib.hid (Keeps.heap ks HB.out (fun h=>h));replace hN:=hN.trans ks;replace hC:=hC.new ks;have HP:=Lib.hid hp;clear ks hp;obtain⟨⟨p0,p1,p2⟩,-,hPl⟩:=aK HP.out;go_wp2_with fail;have hdr:New W2 W2.drew:=(New.refl W2).drew;have hS0:(fun w':World=>w'.cell? ⟨P,0,none⟩=some (.int .u8 h1)∧w'.cell? ⟨P,1,none⟩=some (I h2)∧w'.cell? ⟨P,2,none⟩=some (I h3)∧P<w'.heap.size) W2.drew:=⟨hdr.cell p0,hdr.cell p1,hdr.cell p2,hPl⟩
  obtain⟨⟨r0,r1,r2⟩,⟨f0,f1,f2⟩,hBB⟩:=aK HB.out;clear p0 p1 p2 hPl;refine ar (fun w':World=>w'.cell? ⟨P,0,none⟩=some (.int .u8 h1)∧w'.cell? ⟨P,1,none⟩=some (I h2)∧w'.cell? ⟨P,2,none⟩=some (I h3)∧P<w'.heap.size) [3] (by kernel_rfl) hS0 ?_;refine ae 0 hS0 ?_;refine ae 1 hS0 ?_;refine ae 2 hS0 ?_;refine ah 3 ?_;intro K hK;(try simp only[Act.put,sLs])
  go_simp;refine hK _ _ (fun hx=>by cases hx) ?_;clear hK K;refine aB (by kernel_rfl) ?_;(try simp only[Act.put,sLs])
  (try simp only[Exit.then])
  go_wp2_with fail;exact bodyPost_ret (v:= .tuple #[I h0,.agg #[.int .u8 h1,I h2,I h3]]) (by simp[results,Tryz.results45,go_sem,r0,r1,r2,f0,f1,f2,hBB]) rfl ⟨by rw[<-HR2.out];rfl,((hN.drew.setCell (by simp) _).setCell (by simp) _).setCell (by simp) _⟩
 have d0:(h0 != 0)=false:=by simp[e0]
 obtain⟨hal,hpi,hpo⟩:=hfew.out (fun h=>h e0);have HT:=Lib.hid (show ju g=r by have:=HR.out;rwa [if_neg (fun h=>h e0)] at this);clear HR hfew e0;unfold ju at HT;have HA:∀W (k:New w W) (h:Chk W w.heap.size (w.heap.size+1+1+1) (w.heap.size+1+1) g [] none 0 [] none 0 []),Calls Tryz.prog 84 #[.pointer (some ⟨w.heap.size+1+1+1,0,none⟩)] W fun e w'=>cv (aL (dS g) 0 g.acts) 1 (fun w'=>∃ia ic IL oa oc OL,Chk w' w.heap.size (w.heap.size+1+1+1) (w.heap.size+1+1) g (aq g g.acts.length 0 0) ia ic IL oa oc OL∧IL.map (·.2)=bQ g nIn (fun _ _=>false)∧OL.map (·.2)=bQ g bS (fun _ _=>false)) e w'∧KB w.heap.size W w':=fun W k h=>mN w W _ _ _ g HG.out k rfl HL.out hal h
 have HE:∀(W:World) (ia:Option Addr) (ic:Nat) (IL:List (Nat×List Bool)) (oa:Option Addr) (oc:Nat) (OL:List (Nat×List Bool)) (k:New w W) (h:Chk W w.heap.size (w.heap.size+1+1+1) (w.heap.size+1+1) g (aq g g.acts.length 0 0) ia ic IL oa oc OL) (hi:Hid (IL.map (·.2)=bQ g nIn (fun _ _=>false))) (ho:Hid (OL.map (·.2)=bQ g bS (fun _ _=>false))),Calls Tryz.prog 85 #[.pointer (some ⟨w.heap.size+1+1+1,0,none⟩)] W fun e w'=>cv (aL (cB g) 0 g.edges) 2 (fun w'=>∃IL OL,Chk w' w.heap.size (w.heap.size+1+1+1) (w.heap.size+1+1) g (aq g g.acts.length 0 0) ia ic IL oa oc OL∧IL.map (·.2)=bQ g nIn (bG g g.edges.length 0)∧OL.map (·.2)=bQ g bS (aU g g.edges.length 0)) e w'∧KP w.heap.size W w':=fun W ia ic IL oa oc OL k h hi ho=>ol w W _ _ _ g _ _ _ _ _ _ _ HG.out k rfl HL.out hal h hi.out ho.out
 have HI:∀(W:World) (ia:Option Addr) (ic:Nat) (IL:List (Nat×List Bool)) (oa:Option Addr) (oc:Nat) (OL:List (Nat×List Bool)) (k:New w W) (h:Chk W w.heap.size (w.heap.size+1+1+1) (w.heap.size+1+1) g (aq g g.acts.length 0 0) ia ic IL oa oc OL) (hi:Hid (IL.map (·.2)=bQ g nIn (bG g g.edges.length 0))),Calls Tryz.prog 86 #[.pointer (some ⟨w.heap.size+1+1+1,0,none⟩),.slice g.ia g.ins.length g.ic,.slice ia IL.length ic,.int .u8 3,I 2] W fun e w'=>cv (aL (inE g) 0 g.ins) 3 (fun w'=>∃L,Chk w' w.heap.size (w.heap.size+1+1+1) (w.heap.size+1+1) g (aq g g.acts.length g.ins.length 0) ia ic L oa oc OL∧L.map (·.2)=bQ g nIn (bG g g.edges.length g.ins.length)) e w'∧KP w.heap.size W w':=fun W ia ic IL oa oc OL k h hi=>by
  rw[eF hi.out];exact mU w W _ _ _ g ia ic IL oa oc OL HG.out k rfl HL.out hal hpi hpo h hi.out
 have HO:∀(W:World) (ia:Option Addr) (ic:Nat) (IL:List (Nat×List Bool)) (oa:Option Addr) (oc:Nat) (OL:List (Nat×List Bool)) (k:New w W) (h:Chk W w.heap.size (w.heap.size+1+1+1) (w.heap.size+1+1) g (aq g g.acts.length g.ins.length 0) ia ic IL oa oc OL) (ho:Hid (OL.map (·.2)=bQ g bS (aU g g.edges.length 0))),Calls Tryz.prog 86 #[.pointer (some ⟨w.heap.size+1+1+1,0,none⟩),.slice g.oa g.outs.length g.oc,.slice oa OL.length oc,.int .u8 4,I 1] W fun e w'=>cv (aL (dW g) 0 g.outs) 4 (fun w'=>∃L,Chk w' w.heap.size (w.heap.size+1+1+1) (w.heap.size+1+1) g (aq g g.acts.length g.ins.length g.outs.length) ia ic IL oa oc L∧L.map (·.2)=bQ g bS (aU g g.edges.length g.outs.length)) e w'∧KP w.heap.size W w':=fun W ia ic IL oa oc OL k h ho=>by
  rw[eF ho.out];exact mV w W _ _ _ g ia ic IL oa oc OL HG.out k rfl HL.out hal hpi hpo h ho.out
 have HQ:∀(W:World) (ia:Option Addr) (ic:Nat) (IL:List (Nat×List Bool)) (oa:Option Addr) (oc:Nat) (OL:List (Nat×List Bool)) (k:New w W) (h:Chk W w.heap.size (w.heap.size+1+1+1) (w.heap.size+1+1) g (aq g g.acts.length g.ins.length g.outs.length) ia ic IL oa oc OL) (hi:Hid (IL.map (·.2)=bQ g nIn (bG g g.edges.length g.ins.length))) (ho:Hid (OL.map (·.2)=bQ g bS (aU g g.edges.length g.outs.length))),Calls Tryz.prog 87 #[.pointer (some ⟨w.heap.size+1+1+1,0,none⟩)] W fun e w'=>cv (aL (dy g) 0 g.acts) 1 (fun _=>True) e w'∧KP w.heap.size W w':=fun W ia ic IL oa oc OL k h hi ho=>qg W _ _ _ g _ _ _ _ _ _ _ hal h hi.out ho.out
 have n1:∀k ed,aL (dS g) 0 g.acts=some (k,ed)->ed.1≠0:=fun k ed h=>(bO _ _ _ _ h).1
 have n2:∀k ed,aL (cB g) 0 g.edges=some (k,ed)->ed.1≠0:=fun k ed h=>(bO _ _ _ _ h).1
 have n3:∀k ed,aL (inE g) 0 g.ins=some (k,ed)->ed.1≠0:=fun k ed h=>(bO _ _ _ _ h).1
 have n4:∀k ed,aL (dW g) 0 g.outs=some (k,ed)->ed.1≠0:=fun k ed h=>(bO _ _ _ _ h).1
 have n5:∀k ed,aL (dy g) 0 g.acts=some (k,ed)->ed.1≠0:=fun k ed h=>(bO _ _ _ _ h).1
 generalize aL (dS g) 0 g.acts=s1 at HT n1 HA;generalize aL (cB g) 0 g.edges=s2 at HT n2 HE;generalize aL (inE g) 0 g.ins=s3 at HT n3 HI;generalize aL (dW g) 0 g.outs=s4 at HT n4 HO;generalize aL (dy g) 0 g.acts=s5 at HT n5 HQ;clear HG HL hal hpi hpo;go_wp2_with fail;have ks:New W1 (W1.alloc (.cells #[.int .u8 h1,I h2,I h3] 85)):=(New.refl W1).alloc _;have hp:(W1.alloc (.cells #[.int .u8 h1,I h2,I h3] 85)).heap[W1.heap.size]? =some (.cells #[.int .u8 h1,I h2,I h3] 85 (0,0)):=heap_alloc_new W1 _;have hPW:w.heap.size+1<W1.heap.size:=(Array.getElem?_eq_some_iff.1 HB.out).1;generalize(W1.alloc (.cells #[.int .u8 h1,I h2,I h3] 85))=W2 at ks hp ⊢;generalize W1.heap.size=P at hp hPW ⊢;replace HX:=Lib.hid (Keeps.heap ks HX.out (fun h=>h));replace HB:=Lib.hid (Keeps.heap ks HB.out (fun h=>h));replace hN:=hN.trans ks;replace hC:=hC.new ks;have HP:=Lib.hid hp;clear ks hp;clear HP hPW;go_wp2_with fail;refine(HA W2 hN hC).mono ?_;rintro e W3 ⟨hs,kb⟩;replace HX:=Lib.hid (kb.heap HX.out rfl);replace HB:=Lib.hid (kb.heap HB.out rfl);replace hN:=kb.new rfl hN;clear kb;cases s1 with
 |some sx=>
  obtain⟨i,x,d⟩:=sx;have hx:x≠0:=n1 i (x,d) rfl;have dx:(x != 0)=true:=by simp[hx]
  have HR2:=Lib.hid (show((x,1,(i:Int),d):Int×Int×Int×Int)=r from HT.out);simp only[cv,iQ] at hs;subst hs;clear HT hx n1;go_wp2_with fail;have ks:New W3 (W3.alloc (.cells #[.int .u8 1,I i,I d] 85)):=(New.refl W3).alloc _;have hp:(W3.alloc (.cells #[.int .u8 1,I i,I d] 85)).heap[W3.heap.size]? =some (.cells #[.int .u8 1,I i,I d] 85 (0,0)):=heap_alloc_new W3 _;have hPW:w.heap.size+1<W3.heap.size:=(Array.getElem?_eq_some_iff.1 HB.out).1;generalize(W3.alloc (.cells #[.int .u8 1,I i,I d] 85))=W4 at ks hp ⊢;generalize W3.heap.size=P at hp hPW ⊢;replace HB:=Lib.hid (Keeps.heap ks HB.out (fun h=>h));replace hN:=hN.trans ks;have HP:=Lib.hid hp;clear ks hp;obtain⟨⟨p0,p1,p2⟩,-,hPl⟩:=aK HP.out;go_wp2_with fail;have hdr:New W4 W4.drew:=(New.refl W4).drew;have hS0:(fun w':World=>w'.cell? ⟨P,0,none⟩=some (.int .u8 1)∧w'.cell? ⟨P,1,none⟩=some (I i)∧w'.cell? ⟨P,2,none⟩=some (I d)∧P<w'.heap.size) W4.drew:=⟨hdr.cell p0,hdr.cell p1,hdr.cell p2,hPl⟩
  obtain⟨⟨r0,r1,r2⟩,⟨f0,f1,f2⟩,hBB⟩:=aK HB.out;clear p0 p1 p2 hPl;refine ar (fun w':World=>w'.cell? ⟨P,0,none⟩=some (.int .u8 1)∧w'.cell? ⟨P,1,none⟩=some (I i)∧w'.cell? ⟨P,2,none⟩=some (I d)∧P<w'.heap.size) [3] (by kernel_rfl) hS0 ?_;refine ae 0 hS0 ?_;refine ae 1 hS0 ?_;refine ae 2 hS0 ?_;refine ah 3 ?_;intro K hK;(try simp only[Act.put,sLs])
  go_simp;refine hK _ _ (fun hx=>by cases hx) ?_;clear hK K;refine aB (by kernel_rfl) ?_;(try simp only[Act.put,sLs])
  (try simp only[Exit.then])
  go_wp2_with fail;exact bodyPost_ret (v:= .tuple #[I x,.agg #[.int .u8 1,I i,I d]]) (by simp[results,Tryz.results45,go_sem,r0,r1,r2,f0,f1,f2,hBB]) rfl ⟨by rw[<-HR2.out];rfl,((hN.drew.setCell (by simp) _).setCell (by simp) _).setCell (by simp) _⟩
 |none=>
  simp only[cv,iQ] at hs;obtain⟨rfl,ia,ic,IL,oa,oc,OL,hC2,hi,ho⟩:=hs;have HT2:=Lib.hid (show eB s2 2 (eB s3 3 (eB s4 4 (eB s5 1 (0,0,0,0))))=r from HT.out);have Hi:=Lib.hid hi;have Ho:=Lib.hid ho;replace hC:=hC2;clear HT n1 HA hi ho hC2;go_wp2_with fail;have ks:New W3 (W3.alloc (.cells #[.int .u8 0,I 0,I 0] 85)):=(New.refl W3).alloc _;have hp:(W3.alloc (.cells #[.int .u8 0,I 0,I 0] 85)).heap[W3.heap.size]? =some (.cells #[.int .u8 0,I 0,I 0] 85 (0,0)):=heap_alloc_new W3 _;have hPW:w.heap.size+1<W3.heap.size:=(Array.getElem?_eq_some_iff.1 HB.out).1;generalize(W3.alloc (.cells #[.int .u8 0,I 0,I 0] 85))=W4 at ks hp ⊢;generalize W3.heap.size=P at hp hPW ⊢;replace HX:=Lib.hid (Keeps.heap ks HX.out (fun h=>h));replace HB:=Lib.hid (Keeps.heap ks HB.out (fun h=>h));replace hN:=hN.trans ks;replace hC:=hC.new ks;have HP:=Lib.hid hp;clear ks hp;clear HP hPW;replace HT:=HT2;clear HT2;go_wp2_with fail;refine(HE W4 ia ic IL oa oc OL hN hC Hi Ho).mono ?_;rintro e W5 ⟨hs,kb⟩;replace HX:=Lib.hid (kb.heap HX.out rfl);replace HB:=Lib.hid (kb.heap HB.out rfl);replace hN:=kb.new rfl hN;clear kb;cases s2 with
  |some sx=>
   obtain⟨i,x,d⟩:=sx;have hx:x≠0:=n2 i (x,d) rfl;have dx:(x != 0)=true:=by simp[hx]
   have HR2:=Lib.hid (show((x,2,(i:Int),d):Int×Int×Int×Int)=r from HT.out);simp only[cv,iQ] at hs;subst hs;clear HT hx n2;go_wp2_with fail;have ks:New W5 (W5.alloc (.cells #[.int .u8 2,I i,I d] 85)):=(New.refl W5).alloc _;have hp:(W5.alloc (.cells #[.int .u8 2,I i,I d] 85)).heap[W5.heap.size]? =some (.cells #[.int .u8 2,I i,I d] 85 (0,0)):=heap_alloc_new W5 _;have hPW:w.heap.size+1<W5.heap.size:=(Array.getElem?_eq_some_iff.1 HB.out).1;generalize(W5.alloc (.cells #[.int .u8 2,I i,I d] 85))=W6 at ks hp ⊢;generalize W5.heap.size=P at hp hPW ⊢;replace HB:=Lib.hid (Keeps.heap ks HB.out (fun h=>h));replace hN:=hN.trans ks;have HP:=Lib.hid hp;clear ks hp;obtain⟨⟨p0,p1,p2⟩,-,hPl⟩:=aK HP.out;go_wp2_with fail;have hdr:New W6 W6.drew:=(New.refl W6).drew;have hS0:(fun w':World=>w'.cell? ⟨P,0,none⟩=some (.int .u8 2)∧w'.cell? ⟨P,1,none⟩=some (I i)∧w'.cell? ⟨P,2,none⟩=some (I d)∧P<w'.heap.size) W6.drew:=⟨hdr.cell p0,hdr.cell p1,hdr.cell p2,hPl⟩
   obtain⟨⟨r0,r1,r2⟩,⟨f0,f1,f2⟩,hBB⟩:=aK HB.out;clear p0 p1 p2 hPl;refine ar (fun w':World=>w'.cell? ⟨P,0,none⟩=some (.int .u8 2)∧w'.cell? ⟨P,1,none⟩=some (I i)∧w'.cell? ⟨P,2,none⟩=some (I d)∧P<w'.heap.size) [3] (by kernel_rfl) hS0 ?_;refine ae 0 hS0 ?_;refine ae 1 hS0 ?_;refine ae 2 hS0 ?_;refine ah 3 ?_;intro K hK;(try simp only[Act.put,sLs])
   go_simp;refine hK _ _ (fun hx=>by cases hx) ?_;clear hK K;refine aB (by kernel_rfl) ?_;(try simp only[Act.put,sLs])
   (try simp only[Exit.then])
   go_wp2_with fail;exact bodyPost_ret (v:= .tuple #[I x,.agg #[.int .u8 2,I i,I d]]) (by simp[results,Tryz.results45,go_sem,r0,r1,r2,f0,f1,f2,hBB]) rfl ⟨by rw[<-HR2.out];rfl,((hN.drew.setCell (by simp) _).setCell (by simp) _).setCell (by simp) _⟩
  |none=>
   simp only[cv,iQ] at hs;obtain⟨rfl,IL2,OL2,hC2,hi,ho⟩:=hs;have HT2:=Lib.hid (show eB s3 3 (eB s4 4 (eB s5 1 (0,0,0,0)))=r from HT.out);replace Hi:=Lib.hid hi;replace Ho:=Lib.hid ho;replace hC:=hC2;clear HT n2 HE hi ho hC2;go_wp2_with fail;have ks:New W5 (W5.alloc (.cells #[.int .u8 0,I 0,I 0] 85)):=(New.refl W5).alloc _;have hp:(W5.alloc (.cells #[.int .u8 0,I 0,I 0] 85)).heap[W5.heap.size]? =some (.cells #[.int .u8 0,I 0,I 0] 85 (0,0)):=heap_alloc_new W5 _;have hPW:w.heap.size+1<W5.heap.size:=(Array.getElem?_eq_some_iff.1 HB.out).1;generalize(W5.alloc (.cells #[.int .u8 0,I 0,I 0] 85))=W6 at ks hp ⊢;generalize W5.heap.size=P at hp hPW ⊢;replace HX:=Lib.hid (Keeps.heap ks HX.out (fun h=>h));replace HB:=Lib.hid (Keeps.heap ks HB.out (fun h=>h));replace hN:=hN.trans ks;replace hC:=hC.new ks;have HP:=Lib.hid hp;clear ks hp;clear HP hPW;replace HT:=HT2;clear HT2;go_wp2_with fail;obtain⟨ok,hok⟩:∃ok,(fun w'=>∃L,Chk w' w.heap.size (w.heap.size+1+1+1) (w.heap.size+1+1) g (aq g g.acts.length g.ins.length 0) ia ic L oa oc OL2∧L.map (·.2)=bQ g nIn (bG g g.edges.length g.ins.length))=ok:=⟨_,rfl⟩
   have hc0:∀W,New w W->Chk W w.heap.size (w.heap.size+1+1+1) (w.heap.size+1+1) g (aq g g.acts.length 0 0) ia ic IL2 oa oc OL2->Calls Tryz.prog 86 #[.pointer (some ⟨w.heap.size+1+1+1,0,none⟩),.slice g.ia g.ins.length g.ic,.slice ia IL2.length ic,.int .u8 3,I 2] W fun e w'=>cv s3 3 ok e w'∧KP w.heap.size W w':=fun W k h=>by
    rw[<-hok];exact HI W ia ic IL2 oa oc OL2 k h Hi
   have hokN:∀W W',New W W'->ok W->ok W':=fun W W' k h=>by
    rw[<-hok] at h ⊢;obtain⟨L,h1,h2⟩:=h;exact⟨L,h1.new k,h2⟩
   have hokS:∀(W:World) (P:Nat) (cs:Array Value) (u v x:Value),W.heap[P]? =some (.cells cs 85 (0,0))->ok W->ok (((W.setCell ⟨P,0,none⟩ u).setCell ⟨P,1,none⟩ v).setCell ⟨P,2,none⟩ x):=fun W P cs u v x hp h=>by
    rw[<-hok] at h ⊢;obtain⟨L,h1,h2⟩:=h;exact⟨L,h1.spot hp u v x,h2⟩
   have Hok:=Lib.hid hok;clear hok HI;go_cut [11,12] (fun e p w'=>∃(x k i d:Int) (P:Nat),e=I x∧p= .pointer (some ⟨P,0,none⟩)∧Hid (Res s3 3 ok x k i d w'∧w'.heap[P]? =some (.cells #[.int .u8 k,I i,I d] 85 (0,0))∧w.heap.size+1<P∧
    w'.heap[w.heap.size]? =some (.cells #[.string g.name,.slice g.aa g.acts.length g.ac,.slice g.ea g.edges.length g.ec,.slice g.ia g.ins.length g.ic,.slice g.oa g.outs.length g.oc] 26 (0,0))∧w'.heap[w.heap.size+1]? =some (.cells #[.int .u8 0,I 0,I 0] 85 (0,0))∧New w w'))
   case first=>
    obtain⟨⟨-,-,-,-,-,-,c6,c7⟩,-,hCl⟩:=cH hC.blk;have gI:W6.cell? ⟨w.heap.size,3,none⟩=some (.slice g.ia g.ins.length g.ic):=by rw[cell_of_block HX.out 3];rfl
    have hXl:w.heap.size<W6.heap.size:=(Array.getElem?_eq_some_iff.1 HX.out).1;have hdr:New W6 W6.drew:=(New.refl W6).drew;have HCB:=Lib.hid hC.blk;have hS0:(fun w':World=>w'.cell? ⟨w.heap.size+1+1+1,6,none⟩=some (.slice ia IL2.length ic)∧w'.cell? ⟨w.heap.size,3,none⟩=some (.slice g.ia g.ins.length g.ic)∧w.heap.size+1+1+1<w'.heap.size∧w.heap.size<w'.heap.size) W6.drew:=⟨hdr.cell c6,hdr.cell gI,hCl,hXl⟩
    have HS:∀V,KP w.heap.size W6 V->(fun w':World=>w'.cell? ⟨w.heap.size+1+1+1,6,none⟩=some (.slice ia IL2.length ic)∧w'.cell? ⟨w.heap.size,3,none⟩=some (.slice g.ia g.ins.length g.ic)∧w.heap.size+1+1+1<w'.heap.size∧w.heap.size<w'.heap.size) V:=fun V k=>⟨by rw[cell_of_block (k.heap HCB.out rfl) 6];rfl,by rw[cell_of_block (k.heap HX.out rfl) 3];rfl,Nat.lt_of_lt_of_le hCl k.size,Nat.lt_of_lt_of_le hXl k.size⟩
    have hk0:KP w.heap.size W6 W6.drew:=KXg.of_new hdr;clear c6 c7 gI hXl hCl;refine ar (fun w':World=>w'.cell? ⟨w.heap.size+1+1+1,6,none⟩=some (.slice ia IL2.length ic)∧w'.cell? ⟨w.heap.size,3,none⟩=some (.slice g.ia g.ins.length g.ic)∧w.heap.size+1+1+1<w'.heap.size∧w.heap.size<w'.heap.size) [13] (by kernel_rfl) hS0 ?_;refine ae 0 hS0 ?_;refine ae 1 hS0 ?_;refine ae 2 hS0 ?_;refine ae 3 hS0 ?_;refine ae 4 hS0 ?_;refine ae 5 hS0 ?_;refine ae 6 hS0 ?_;refine mF 7 11 (by kernel_rfl) ?_ ?_
    ·intro oi ho;simp only[sLq] at ho;subst ho;intro K hK;(try simp only[Act.put,sLs])
     go_simp;refine(hc0 W6.drew (hN.trans hdr) (hC.new hdr)).mono ?_;rintro e VA ⟨hs,kb⟩;obtain⟨x,kk,i,d,rfl,hres⟩:=gL hs;have kA:=hk0.trans kb;have HSA:=HS VA kA;refine hK _ _ (fun _=>HSA) ?_;clear hK K hs kb hS0;refine ae 8 HSA ?_;refine ae 9 HSA ?_;refine ae 10 HSA ?_;refine ah 11 ?_;intro K hK;refine iL ?_ ?_ ?_
     ·rfl
     ·rfl
     have ks:New VA (VA.alloc (.cells #[.int .u8 0,I 0,I 0] 85)):=(New.refl VA).alloc _;have hp:(VA.alloc (.cells #[.int .u8 0,I 0,I 0] 85)).heap[VA.heap.size]? =some (.cells #[.int .u8 0,I 0,I 0] 85 (0,0)):=heap_alloc_new VA _;have hPW:w.heap.size+1<VA.heap.size:=Nat.lt_of_lt_of_le (Array.getElem?_eq_some_iff.1 HB.out).1 kA.size;generalize(VA.alloc (.cells #[.int .u8 0,I 0,I 0] 85))=VB at ks hp hK ⊢;generalize VA.heap.size=P at hp hPW ⊢;have kB:=kA.trans (KXg.of_new ks);have HSB:=HS VB kB;have HRB:=Lib.hid (hres.to (hokN _ _ ks));have HPB:=Lib.hid hp;refine hK _ _ (fun _=>HSB) ?_;clear hK K hres ks hp HSA kA;refine ae 12 HSB ?_;obtain⟨⟨p0,p1,p2⟩,⟨f0,f1,f2⟩,hPl⟩:=aK HPB.out;refine ah 13 ?_;intro K hK;(try simp only[Act.put,sLs])
     go_simp;refine hK _ _ (fun hx=>by cases hx) ?_;clear hK K;refine aB (by kernel_rfl) ?_;(try simp only[Act.put,sLs])
     (try simp only[Exit.then])
     go_wp2
     go_meet
     case rel=>
      refine⟨x,kk,i,d,P,rfl,rfl,Lib.hid ⟨HRB.out.to (hokS _ _ _ _ _ _ HPB.out),gk HPB.out _ _ _,hPW,?_,?_,?_⟩⟩
      ·exact(cp _ _ _).heap (kB.heap HX.out rfl) (by omega)
      ·exact(cp _ _ _).heap (kB.heap HB.out rfl) (by omega)
      ·exact New.keeps (kB.new rfl hN) (cp _ _ _) (fun i hi=>by omega)
    ·intro oi ho;simp only[sLq] at ho;subst ho;intro K hK;refine iL ?_ ?_ ?_
     ·rfl
     ·rfl
     have ks:New W6.drew (W6.drew.alloc (.cells #[.int .u8 0,I 0,I 0] 85)):=(New.refl _).alloc _;have hp:(W6.drew.alloc (.cells #[.int .u8 0,I 0,I 0] 85)).heap[W6.drew.heap.size]? =some (.cells #[.int .u8 0,I 0,I 0] 85 (0,0)):=heap_alloc_new W6.drew _;have hPW:w.heap.size+1<W6.drew.heap.size:=Nat.lt_of_lt_of_le (Array.getElem?_eq_some_iff.1 HB.out).1 hk0.size;generalize(W6.drew.alloc (.cells #[.int .u8 0,I 0,I 0] 85))=VA at ks hp hK ⊢;generalize W6.drew.heap.size=P at hp hPW ⊢;have kA:=hk0.trans (KXg.of_new ks);have HSA:=HS VA kA;refine hK _ _ (fun _=>HSA) ?_;clear hK K hS0;refine ah 7 ?_;intro K hK;(try simp only[Act.put,sLs])
     go_simp;refine(hc0 VA (kA.new rfl hN) ((hC.new hdr).new ks)).mono ?_;rintro e VB ⟨hs,kb⟩;obtain⟨x,kk,i,d,rfl,hres⟩:=gL hs;have kB:=kA.trans kb;have HSB:=HS VB kB;have HRB:=Lib.hid hres;have HPB:=Lib.hid (kb.heap hp rfl);refine hK _ _ (fun _=>HSB) ?_;clear hK K hs kb hres ks hp HSA kA;refine ae 8 HSB ?_;refine ae 9 HSB ?_;refine ae 10 HSB ?_;refine ae 12 HSB ?_;obtain⟨⟨p0,p1,p2⟩,⟨f0,f1,f2⟩,hPl⟩:=aK HPB.out;refine ah 13 ?_;intro K hK;(try simp only[Act.put,sLs])
     go_simp;refine hK _ _ (fun hx=>by cases hx) ?_;clear hK K;refine aB (by kernel_rfl) ?_;(try simp only[Act.put,sLs])
     (try simp only[Exit.then])
     go_wp2
     go_meet
     case rel=>
      refine⟨x,kk,i,d,P,rfl,rfl,Lib.hid ⟨HRB.out.to (hokS _ _ _ _ _ _ HPB.out),gk HPB.out _ _ _,hPW,?_,?_,?_⟩⟩
      ·exact(cp _ _ _).heap (kB.heap HX.out rfl) (by omega)
      ·exact(cp _ _ _).heap (kB.heap HB.out rfl) (by omega)
      ·exact New.keeps (kB.new rfl hN) (cp _ _ _) (fun i hi=>by omega)
   case rest=>
    obtain⟨x,kk,i,d,P,rfl,rfl,HZ⟩:=hcut;obtain⟨W7,hW⟩:∃W,W=wc:=⟨_,rfl⟩
    subst hW;obtain⟨hres,hp,hPW,hx0,hb0,hN0⟩:=HZ.out;have HP:=Lib.hid hp;replace HX:=Lib.hid hx0;replace HB:=Lib.hid hb0;replace hN:=hN0;clear hp hx0 hb0 hN0 HZ hC;cases s3 with
    |some sx=>
     obtain⟨i',x',d'⟩:=sx;obtain⟨e1,e2,e3,e4⟩:=hres;have hx:x≠0:=by rw[e1];exact n3 i' (x',d') rfl
     have dx:(x != 0)=true:=by simp[hx]
     have HR2:=Lib.hid (show((x,kk,i,d):Int×Int×Int×Int)=r by rw[e1,e2,e3,e4];exact HT.out);clear HT hx n3 e1 e2 e3 e4;go_wp2_with fail;obtain⟨⟨p0,p1,p2⟩,-,hPl⟩:=aK HP.out;go_wp2_with fail;have hdr:New W7 W7.drew:=(New.refl W7).drew;have hS0:(fun w':World=>w'.cell? ⟨P,0,none⟩=some (.int .u8 kk)∧w'.cell? ⟨P,1,none⟩=some (I i)∧w'.cell? ⟨P,2,none⟩=some (I d)∧P<w'.heap.size) W7.drew:=⟨hdr.cell p0,hdr.cell p1,hdr.cell p2,hPl⟩
     obtain⟨⟨r0,r1,r2⟩,⟨f0,f1,f2⟩,hBB⟩:=aK HB.out;clear p0 p1 p2 hPl;refine ar (fun w':World=>w'.cell? ⟨P,0,none⟩=some (.int .u8 kk)∧w'.cell? ⟨P,1,none⟩=some (I i)∧w'.cell? ⟨P,2,none⟩=some (I d)∧P<w'.heap.size) [3] (by kernel_rfl) hS0 ?_;refine ae 0 hS0 ?_;refine ae 1 hS0 ?_;refine ae 2 hS0 ?_;refine ah 3 ?_;intro K hK;(try simp only[Act.put,sLs])
     go_simp;refine hK _ _ (fun hx=>by cases hx) ?_;clear hK K;refine aB (by kernel_rfl) ?_;(try simp only[Act.put,sLs])
     (try simp only[Exit.then])
     go_wp2_with fail;exact bodyPost_ret (v:= .tuple #[I x,.agg #[.int .u8 kk,I i,I d]]) (by simp[results,Tryz.results45,go_sem,r0,r1,r2,f0,f1,f2,hBB]) rfl ⟨by rw[<-HR2.out];rfl,((hN.drew.setCell (by simp) _).setCell (by simp) _).setCell (by simp) _⟩
    |none=>
     obtain⟨rfl,rfl,rfl,rfl,hk⟩:=hres;rw[<-Hok.out] at hk;obtain⟨IL3,hC,hi⟩:=hk;have HIL3:=Lib.hid hi;have HT2:=Lib.hid (show eB s4 4 (eB s5 1 (0,0,0,0))=r from HT.out);replace HT:=HT2;clear HT2 hi Hok hc0 hokN hokS HP hPW n3;go_wp2_with fail;obtain⟨ok,hok⟩:∃ok,(fun w'=>∃L,Chk w' w.heap.size (w.heap.size+1+1+1) (w.heap.size+1+1) g (aq g g.acts.length g.ins.length g.outs.length) ia ic IL3 oa oc L∧L.map (·.2)=bQ g bS (aU g g.edges.length g.outs.length))=ok:=⟨_,rfl⟩
     have hc0:∀W,New w W->Chk W w.heap.size (w.heap.size+1+1+1) (w.heap.size+1+1) g (aq g g.acts.length g.ins.length 0) ia ic IL3 oa oc OL2->Calls Tryz.prog 86 #[.pointer (some ⟨w.heap.size+1+1+1,0,none⟩),.slice g.oa g.outs.length g.oc,.slice oa OL2.length oc,.int .u8 4,I 1] W fun e w'=>cv s4 4 ok e w'∧KP w.heap.size W w':=fun W k h=>by
      rw[<-hok];exact HO W ia ic IL3 oa oc OL2 k h Ho
     have hokN:∀W W',New W W'->ok W->ok W':=fun W W' k h=>by
      rw[<-hok] at h ⊢;obtain⟨L,h1,h2⟩:=h;exact⟨L,h1.new k,h2⟩
     have hokS:∀(W:World) (P:Nat) (cs:Array Value) (u v x:Value),W.heap[P]? =some (.cells cs 85 (0,0))->ok W->ok (((W.setCell ⟨P,0,none⟩ u).setCell ⟨P,1,none⟩ v).setCell ⟨P,2,none⟩ x):=fun W P cs u v x hp h=>by
      rw[<-hok] at h ⊢;obtain⟨L,h1,h2⟩:=h;exact⟨L,h1.spot hp u v x,h2⟩
     have Hok:=Lib.hid hok;clear hok HO;go_cut [13,14] (fun e p w'=>∃(x k i d:Int) (P:Nat),e=I x∧p= .pointer (some ⟨P,0,none⟩)∧Hid (Res s4 4 ok x k i d w'∧w'.heap[P]? =some (.cells #[.int .u8 k,I i,I d] 85 (0,0))∧w.heap.size+1<P∧
      w'.heap[w.heap.size]? =some (.cells #[.string g.name,.slice g.aa g.acts.length g.ac,.slice g.ea g.edges.length g.ec,.slice g.ia g.ins.length g.ic,.slice g.oa g.outs.length g.oc] 26 (0,0))∧w'.heap[w.heap.size+1]? =some (.cells #[.int .u8 0,I 0,I 0] 85 (0,0))∧New w w'))
     case first=>
      obtain⟨⟨-,-,-,-,-,-,c6,c7⟩,-,hCl⟩:=cH hC.blk;have gI:W7.cell? ⟨w.heap.size,4,none⟩=some (.slice g.oa g.outs.length g.oc):=by rw[cell_of_block HX.out 4];rfl
      have hXl:w.heap.size<W7.heap.size:=(Array.getElem?_eq_some_iff.1 HX.out).1;have hdr:New W7 W7.drew:=(New.refl W7).drew;have HCB:=Lib.hid hC.blk;have hS0:(fun w':World=>w'.cell? ⟨w.heap.size+1+1+1,7,none⟩=some (.slice oa OL2.length oc)∧w'.cell? ⟨w.heap.size,4,none⟩=some (.slice g.oa g.outs.length g.oc)∧w.heap.size+1+1+1<w'.heap.size∧w.heap.size<w'.heap.size) W7.drew:=⟨hdr.cell c7,hdr.cell gI,hCl,hXl⟩
      have HS:∀V,KP w.heap.size W7 V->(fun w':World=>w'.cell? ⟨w.heap.size+1+1+1,7,none⟩=some (.slice oa OL2.length oc)∧w'.cell? ⟨w.heap.size,4,none⟩=some (.slice g.oa g.outs.length g.oc)∧w.heap.size+1+1+1<w'.heap.size∧w.heap.size<w'.heap.size) V:=fun V k=>⟨by rw[cell_of_block (k.heap HCB.out rfl) 7];rfl,by rw[cell_of_block (k.heap HX.out rfl) 4];rfl,Nat.lt_of_lt_of_le hCl k.size,Nat.lt_of_lt_of_le hXl k.size⟩
      have hk0:KP w.heap.size W7 W7.drew:=KXg.of_new hdr;clear c6 c7 gI hXl hCl;refine ar (fun w':World=>w'.cell? ⟨w.heap.size+1+1+1,7,none⟩=some (.slice oa OL2.length oc)∧w'.cell? ⟨w.heap.size,4,none⟩=some (.slice g.oa g.outs.length g.oc)∧w.heap.size+1+1+1<w'.heap.size∧w.heap.size<w'.heap.size) [13] (by kernel_rfl) hS0 ?_;refine ae 0 hS0 ?_;refine ae 1 hS0 ?_;refine ae 2 hS0 ?_;refine ae 3 hS0 ?_;refine ae 4 hS0 ?_;refine ae 5 hS0 ?_;refine ae 6 hS0 ?_;refine mF 7 11 (by kernel_rfl) ?_ ?_
      ·intro oi ho;simp only[sLq] at ho;subst ho;intro K hK;(try simp only[Act.put,sLs])
       go_simp;refine(hc0 W7.drew (hN.trans hdr) (hC.new hdr)).mono ?_;rintro e VA ⟨hs,kb⟩;obtain⟨x,kk,i,d,rfl,hres⟩:=gL hs;have kA:=hk0.trans kb;have HSA:=HS VA kA;refine hK _ _ (fun _=>HSA) ?_;clear hK K hs kb hS0;refine ae 8 HSA ?_;refine ae 9 HSA ?_;refine ae 10 HSA ?_;refine ah 11 ?_;intro K hK;refine iL ?_ ?_ ?_
       ·rfl
       ·rfl
       have ks:New VA (VA.alloc (.cells #[.int .u8 0,I 0,I 0] 85)):=(New.refl VA).alloc _;have hp:(VA.alloc (.cells #[.int .u8 0,I 0,I 0] 85)).heap[VA.heap.size]? =some (.cells #[.int .u8 0,I 0,I 0] 85 (0,0)):=heap_alloc_new VA _;have hPW:w.heap.size+1<VA.heap.size:=Nat.lt_of_lt_of_le (Array.getElem?_eq_some_iff.1 HB.out).1 kA.size;generalize(VA.alloc (.cells #[.int .u8 0,I 0,I 0] 85))=VB at ks hp hK ⊢;generalize VA.heap.size=P at hp hPW ⊢;have kB:=kA.trans (KXg.of_new ks);have HSB:=HS VB kB;have HRB:=Lib.hid (hres.to (hokN _ _ ks));have HPB:=Lib.hid hp;refine hK _ _ (fun _=>HSB) ?_;clear hK K hres ks hp HSA kA;refine ae 12 HSB ?_;obtain⟨⟨p0,p1,p2⟩,⟨f0,f1,f2⟩,hPl⟩:=aK HPB.out;refine ah 13 ?_;intro K hK;(try simp only[Act.put,sLs])
       go_simp;refine hK _ _ (fun hx=>by cases hx) ?_;clear hK K;refine aB (by kernel_rfl) ?_;(try simp only[Act.put,sLs])
       (try simp only[Exit.then])
       go_wp2
       go_meet
       case rel=>
        refine⟨x,kk,i,d,P,rfl,rfl,Lib.hid ⟨HRB.out.to (hokS _ _ _ _ _ _ HPB.out),gk HPB.out _ _ _,hPW,?_,?_,?_⟩⟩
        ·exact(cp _ _ _).heap (kB.heap HX.out rfl) (by omega)
        ·exact(cp _ _ _).heap (kB.heap HB.out rfl) (by omega)
        ·exact New.keeps (kB.new rfl hN) (cp _ _ _) (fun i hi=>by omega)
      ·intro oi ho;simp only[sLq] at ho;subst ho;intro K hK;refine iL ?_ ?_ ?_
       ·rfl
       ·rfl
       have ks:New W7.drew (W7.drew.alloc (.cells #[.int .u8 0,I 0,I 0] 85)):=(New.refl _).alloc _;have hp:(W7.drew.alloc (.cells #[.int .u8 0,I 0,I 0] 85)).heap[W7.drew.heap.size]? =some (.cells #[.int .u8 0,I 0,I 0] 85 (0,0)):=heap_alloc_new W7.drew _;have hPW:w.heap.size+1<W7.drew.heap.size:=Nat.lt_of_lt_of_le (Array.getElem?_eq_some_iff.1 HB.out).1 hk0.size;generalize(W7.drew.alloc (.cells #[.int .u8 0,I 0,I 0] 85))=VA at ks hp hK ⊢;generalize W7.drew.heap.size=P at hp hPW ⊢;have kA:=hk0.trans (KXg.of_new ks);have HSA:=HS VA kA;refine hK _ _ (fun _=>HSA) ?_;clear hK K hS0;refine ah 7 ?_;intro K hK;(try simp only[Act.put,sLs])
       go_simp;refine(hc0 VA (kA.new rfl hN) ((hC.new hdr).new ks)).mono ?_;rintro e VB ⟨hs,kb⟩;obtain⟨x,kk,i,d,rfl,hres⟩:=gL hs;have kB:=kA.trans kb;have HSB:=HS VB kB;have HRB:=Lib.hid hres;have HPB:=Lib.hid (kb.heap hp rfl);refine hK _ _ (fun _=>HSB) ?_;clear hK K hs kb hres ks hp HSA kA;refine ae 8 HSB ?_;refine ae 9 HSB ?_;refine ae 10 HSB ?_;refine ae 12 HSB ?_;obtain⟨⟨p0,p1,p2⟩,⟨f0,f1,f2⟩,hPl⟩:=aK HPB.out;refine ah 13 ?_;intro K hK;(try simp only[Act.put,sLs])
       go_simp;refine hK _ _ (fun hx=>by cases hx) ?_;clear hK K;refine aB (by kernel_rfl) ?_;(try simp only[Act.put,sLs])
       (try simp only[Exit.then])
       go_wp2
       go_meet
       case rel=>
        refine⟨x,kk,i,d,P,rfl,rfl,Lib.hid ⟨HRB.out.to (hokS _ _ _ _ _ _ HPB.out),gk HPB.out _ _ _,hPW,?_,?_,?_⟩⟩
        ·exact(cp _ _ _).heap (kB.heap HX.out rfl) (by omega)
        ·exact(cp _ _ _).heap (kB.heap HB.out rfl) (by omega)
        ·exact New.keeps (kB.new rfl hN) (cp _ _ _) (fun i hi=>by omega)
     case rest=>
      obtain⟨x,kk,i,d,P,rfl,rfl,HZ⟩:=hcut;obtain⟨W8,hW⟩:∃W,W=wc:=⟨_,rfl⟩
      subst hW;obtain⟨hres,hp,hPW,hx0,hb0,hN0⟩:=HZ.out;have HP:=Lib.hid hp;replace HX:=Lib.hid hx0;replace HB:=Lib.hid hb0;replace hN:=hN0;clear hp hx0 hb0 hN0 HZ hC;cases s4 with
      |some sx=>
       obtain⟨i',x',d'⟩:=sx;obtain⟨e1,e2,e3,e4⟩:=hres;have hx:x≠0:=by rw[e1];exact n4 i' (x',d') rfl
       have dx:(x != 0)=true:=by simp[hx]
       have HR2:=Lib.hid (show((x,kk,i,d):Int×Int×Int×Int)=r by rw[e1,e2,e3,e4];exact HT.out);clear HT hx n4 e1 e2 e3 e4;go_wp2_with fail;obtain⟨⟨p0,p1,p2⟩,-,hPl⟩:=aK HP.out;go_wp2_with fail;have hdr:New W8 W8.drew:=(New.refl W8).drew;have hS0:(fun w':World=>w'.cell? ⟨P,0,none⟩=some (.int .u8 kk)∧w'.cell? ⟨P,1,none⟩=some (I i)∧w'.cell? ⟨P,2,none⟩=some (I d)∧P<w'.heap.size) W8.drew:=⟨hdr.cell p0,hdr.cell p1,hdr.cell p2,hPl⟩
       obtain⟨⟨r0,r1,r2⟩,⟨f0,f1,f2⟩,hBB⟩:=aK HB.out;clear p0 p1 p2 hPl;refine ar (fun w':World=>w'.cell? ⟨P,0,none⟩=some (.int .u8 kk)∧w'.cell? ⟨P,1,none⟩=some (I i)∧w'.cell? ⟨P,2,none⟩=some (I d)∧P<w'.heap.size) [3] (by kernel_rfl) hS0 ?_;refine ae 0 hS0 ?_;refine ae 1 hS0 ?_;refine ae 2 hS0 ?_;refine ah 3 ?_;intro K hK;(try simp only[Act.put,sLs])
       go_simp;refine hK _ _ (fun hx=>by cases hx) ?_;clear hK K;refine aB (by kernel_rfl) ?_;(try simp only[Act.put,sLs])
       (try simp only[Exit.then])
       go_wp2_with fail;exact bodyPost_ret (v:= .tuple #[I x,.agg #[.int .u8 kk,I i,I d]]) (by simp[results,Tryz.results45,go_sem,r0,r1,r2,f0,f1,f2,hBB]) rfl ⟨by rw[<-HR2.out];rfl,((hN.drew.setCell (by simp) _).setCell (by simp) _).setCell (by simp) _⟩
      |none=>
       obtain⟨rfl,rfl,rfl,rfl,hk⟩:=hres;rw[<-Hok.out] at hk;obtain⟨OL4,hC,hi⟩:=hk;have HOL4:=Lib.hid hi;have HT2:=Lib.hid (show eB s5 1 (0,0,0,0)=r from HT.out);replace HT:=HT2;clear HT2 hi Hok hc0 hokN hokS HP hPW n4;go_wp2_with fail;refine(HQ W8 ia ic IL3 oa oc OL4 hN hC HIL3 HOL4).mono ?_;rintro e W9 ⟨hs,kb⟩;replace HB:=Lib.hid (kb.heap HB.out rfl);replace hN:=kb.new rfl hN;obtain⟨x,kk,i,d,rfl,hres⟩:=gL hs;have HR2:=Lib.hid (show((x,kk,i,d):Int×Int×Int×Int)=r by
        rw[<-HT.out];cases s5 with
        |some sx=>obtain⟨i',x',d'⟩:=sx;obtain⟨e1,e2,e3,e4⟩:=hres;rw[e1,e2,e3,e4];rfl
        |none=>obtain⟨e1,e2,e3,e4,-⟩:=hres;rw[e1,e2,e3,e4];rfl)
       obtain⟨⟨r0,r1,r2⟩,⟨f0,f1,f2⟩,hBB⟩:=aK HB.out;clear hs kb hres HT HQ n5;go_wp2_with fail;exact bodyPost_ret (v:= .tuple #[I x,.agg #[.int .u8 kk,I i,I d]]) (by simp[results,Tryz.results45,go_sem,r0,r1,r2,f0,f1,f2,hBB]) rfl ⟨by rw[<-HR2.out];rfl,((hN.setCell (by simp) _).setCell (by simp) _).setCell (by simp) _⟩
set_option maxRecDepth 100000 in
theorem kf (w:World) (g:Gr) (hg:GrAt w g) (hl:GLen g):
  Calls Tryz.prog 22 #[g.v] w fun en w'=>en= .returned (I (aX g).1)∧New w w':=by
 have HF:∀W,New w W->Calls Tryz.prog 45 #[g.v] W fun en w'=>en= .returned (gY (aX g))∧New W w':=fun W k=>lz W g (hg.new k) hl
 generalize aX g=fg at HF ⊢;clear hg hl;obtain⟨f0,f1,f2,f3⟩:=fg;simp only[Gr.v,Gr.cs,gY,iQ] at HF ⊢;go_enter Tryz.func22,Tryz.ntmps22;go_wp2_with fail;refine(HF _ ((New.refl w).alloc _)).mono ?_;rintro e w1 ⟨rfl,k1⟩;go_wp2_with fail;go_ret
 exact⟨rfl,(((New.refl w).alloc _).trans k1).alloc _⟩
end Go.Proofs.YtnedmonlofbahaaGreatDoor
namespace Go.Proofs.YtnedmonlofbahaaGreatDoor
open Go Go.RowKit Go.Joins
set_option linter.all false
theorem vz {a:Option Addr} {n m c:Nat} (h:n=m):Ending.returned (.slice a n c)= .returned (.slice a m c):=by rw[h]
theorem gh (w:World) (ao:Option Addr) (c:Nat) (xs:List Int) (hx:am w ao (Is xs)) (hn:xs.length*8<=140737488355328):
  Calls Tryz.prog 54 #[.slice ao xs.length c] w fun e w'=>∃a' c',e= .returned (.slice a' xs.length c')∧bp w' w.heap.size a' c' xs∧New w w':=by
 obtain⟨i0,hi,hz0,hz1,hz2⟩:=info_parts Tryz.infoInt;have hnil:w.ownsRow w.heap.size 3 1 (.slice none 0 0) 0 []:=World.ownsRow_nil _ _ _ _;go_enter Tryz.func54,Tryz.ntmps54;go_wp2_with (at_builtin;refine bB rfl _ _ 61 rfl w.heap.size 3 i0 (.int .i64 0) 1 8 Tryz.underlying61 hi hz0 hz1 hz2 rfl (by decide) none 0 0 [] rfl hnil ao xs.length c (Is xs) rfl (by simp) hx (fu _ _) (by unfold maxLen;omega) (by omega) (Nat.le_refl _) ?_);intro a' c' w' hown hk hm _;go_wp2_with fail;go_ret
 refine⟨a',c',vz (by omega),?_,Keeps.mono hk (fun k _ hb=>by obtain⟨x,hx,_⟩:=hb;cases hx)⟩;simpa[bp] using hown
theorem dn {α:Type} {E:Nat->α->Int×Int} :∀(l:List α) (i:Nat),aL E i l=none->∀j (hj:j<l.length),(E (i+j) l[j]).1=0:=by
 intro l;induction l with
 |nil=>intro i _ j hj;simp at hj
 |cons x r ih=>
  intro i h j hj;unfold aL at h;split at h
  ·cases h
  ·rename_i h0;cases j with
   |zero=>simpa using h0
   |succ j=>
    have:=ih (i+1) h j (by simpa using hj);rw[show i+(j+1)=i+1+j by omega];simpa using this
theorem fQ {r:Option (Nat×Int×Int)} {kd:Int} {rest:Int×Int×Int×Int} (hr:∀k ed,r=some (k,ed)->ed.1≠0) (h:(eB r kd rest).1=0):r=none∧rest.1=0:=by
 cases r with
 |some x=>obtain⟨i,e,d⟩:=x;exact absurd h (hr i (e,d) rfl)
 |none=>exact⟨rfl,h⟩
structure Sound (g:Gr):Prop where
 nm:aM g.name=true
 na1:1<=g.acts.length
 na:g.acts.length<=32
 ne:g.edges.length<=96
 ni:g.ins.length<=16
 no:g.outs.length<=16
 act:∀i (hi:i<g.acts.length),cq (aq g i 0 0) g.acts[i].name=0∧(aj g.acts[i].tag g.acts[i].xs).1=0
 edge:∀i (hi:i<g.edges.length),cN g bS (aU g i 0 g.edges[i].f g.edges[i].fp) g.edges[i].f g.edges[i].fp=0∧cN g nIn (bG g i 0 g.edges[i].t g.edges[i].tp) g.edges[i].t g.edges[i].tp=0∧g.edges[i].xs.length<=256
 inp:∀i (hi:i<g.ins.length),cq (aq g g.acts.length i 0) g.ins[i].name=0∧cN g nIn (bG g g.edges.length i g.ins[i].ac g.ins[i].po) g.ins[i].ac g.ins[i].po=0
 out:∀i (hi:i<g.outs.length),cq (aq g g.acts.length g.ins.length i) g.outs[i].name=0∧cN g bS (aU g g.edges.length i g.outs[i].ac g.outs[i].po) g.outs[i].ac g.outs[i].po=0
 opn:∀i (hi:i<g.acts.length),dP g i g.acts[i]=false
theorem lf {g:Gr} (h:(aX g).1=0):Sound g:=by
 rw[gS] at h;by_cases hh:(gd g).1≠0
 ·rw[if_pos hh] at h;exact absurd h hh
 rw[if_neg hh] at h;have hd:aM g.name=true∧1<=g.acts.length∧g.acts.length<=32∧g.edges.length<=96∧g.ins.length<=16∧g.outs.length<=16:=by
  unfold gd gf at hh;by_cases h0:aM g.name=false
  ·simp[h0] at hh
  by_cases h1:g.acts.length=0
  ·simp[h0,h1] at hh
  by_cases h2:32<g.acts.length
  ·simp[h0,h1,h2] at hh
  by_cases h3:96<g.edges.length
  ·simp[h0,h1,h2,h3] at hh
  by_cases h4:16<g.ins.length
  ·simp[h0,h1,h2,h3,h4] at hh
  by_cases h5:16<g.outs.length
  ·simp[h0,h1,h2,h3,h4,h5] at hh
  exact⟨by simpa using h0,by omega,by omega,by omega,by omega,by omega⟩
 unfold ju at h;obtain⟨r1,h⟩:=fQ (fun k ed e=>(bO _ _ _ _ e).1) h;obtain⟨r2,h⟩:=fQ (fun k ed e=>(bO _ _ _ _ e).1) h;obtain⟨r3,h⟩:=fQ (fun k ed e=>(bO _ _ _ _ e).1) h;obtain⟨r4,h⟩:=fQ (fun k ed e=>(bO _ _ _ _ e).1) h;obtain⟨r5,h⟩:=fQ (fun k ed e=>(bO _ _ _ _ e).1) h;refine⟨hd.1,hd.2.1,hd.2.2.1,hd.2.2.2.1,hd.2.2.2.2.1,hd.2.2.2.2.2,fun i hi=>?_,fun i hi=>?_,fun i hi=>?_,fun i hi=>?_,fun i hi=>?_⟩
 ·have:=dn _ _ r1 i hi;rw[Nat.zero_add,mb] at this;by_cases e:cq (aq g i 0 0) g.acts[i].name=0
  ·rw[if_neg (fun h=>h e)] at this;exact⟨e,this⟩
  ·rw[if_pos e] at this;exact absurd this e
 ·have:=dn _ _ r2 i hi;rw[Nat.zero_add] at this;unfold cB at this;by_cases e:cN g bS (aU g i 0 g.edges[i].f g.edges[i].fp) g.edges[i].f g.edges[i].fp=0
  ·rw[if_neg (fun h=>h e)] at this;by_cases e2:cN g nIn (bG g i 0 g.edges[i].t g.edges[i].tp) g.edges[i].t g.edges[i].tp=0
   ·rw[if_neg (fun h=>h e2)] at this;by_cases e3:256<g.edges[i].xs.length
    ·rw[if_pos e3] at this;simp at this
    ·exact⟨e,e2,by omega⟩
   ·rw[if_pos e2] at this;exact absurd this e2
  ·rw[if_pos e] at this;exact absurd this e
 ·have:=dn _ _ r3 i hi;rw[Nat.zero_add] at this;unfold inE at this;by_cases e:cq (aq g g.acts.length i 0) g.ins[i].name=0
  ·rw[if_neg (fun h=>h e)] at this;exact⟨e,this⟩
  ·rw[if_pos e] at this;exact absurd this e
 ·have:=dn _ _ r4 i hi;rw[Nat.zero_add] at this;unfold dW at this;by_cases e:cq (aq g g.acts.length g.ins.length i) g.outs[i].name=0
  ·rw[if_neg (fun h=>h e)] at this;exact⟨e,this⟩
  ·rw[if_pos e] at this;exact absurd this e
 ·have:=dn _ _ r5 i hi;rw[Nat.zero_add] at this;unfold dy at this;cases e:dP g i g.acts[i] with
  |false=>rfl
  |true=>rw[e] at this;simp at this
theorem cJ {g:Gr} {n:GAct->Nat} {tk:Bool} {a p:Int} (h:cN g n tk a p=0):∃(x:Nat) (hx:x<g.acts.length),a=x∧0<=p∧p<n g.acts[x]∧tk=false:=by
 unfold cN at h;split at h
 ·rename_i ha;split at h
  ·rename_i hp;split at h
   ·cases h
   ·rename_i ht;exact⟨a.toNat,by omega,by omega,hp.1,hp.2,by simpa using ht⟩
  ·cases h
 ·cases h
theorem eb {tag:Int} {ps:List Int} (h:(aj tag ps).1=0):1<=tag∧tag<=11∧ps.length<=16:=by
 unfold aj at h;split at h
 ·rename_i ht;split at h
  ·rename_i hg;refine⟨ht.1,ht.2,?_⟩;rcases fE ht.1 ht.2 with rfl|rfl|rfl|rfl|rfl|rfl|rfl|rfl|rfl|rfl|rfl
   ·have:1<=ps.length∧ps.length<=16:=by simpa[aQ] using hg
    omega
   ·obtain⟨n,rfl,_⟩:=cL (ps:=ps) (k:=64) (by simpa[aQ] using hg);simp
   ·obtain⟨n,rfl,_⟩:=cL (ps:=ps) (k:=64) (by simpa[aQ] using hg);simp
   ·obtain⟨n,m,rfl,_⟩:=fG (ps:=ps) (by simpa[aQ] using hg);simp
   ·obtain⟨n,m,rfl,_⟩:=fG (ps:=ps) (by simpa[aQ] using hg);simp
   ·obtain⟨n,rfl,_⟩:=cL (ps:=ps) (k:=16) (by simpa[aQ] using hg);simp
   ·have:ps.length=0:=by simpa[aQ] using hg
    omega
   ·have:ps.length=0:=by simpa[aQ] using hg
    omega
   ·obtain⟨n,rfl,_⟩:=cL (ps:=ps) (k:=16) (by simpa[aQ] using hg);simp
   ·have:ps.length=2:=by simpa[aQ] using hg
    omega
   ·obtain⟨n,rfl,_⟩:=cL (ps:=ps) (k:=64) (by simpa[aQ] using hg);simp
  ·simp at h
 ·simp at h
def ey (g:Gr) (a:Int):ByteArray:=(g.acts.getD a.toNat ⟨ByteArray.empty,0,none,0,[]⟩).name
theorem dH (g:Gr) {a:Nat} (ha:a<g.acts.length):ey g a=g.acts[a].name:=by
 unfold ey;simp[List.getD_eq_getElem?_getD,ha]
def bV (x:GAct):SIt:=⟨1,x.name,(ft x.tag).1,none,0,x.xs,⟨#[]⟩,0,0,⟨#[]⟩,0,0,0⟩
def bz (g:Gr) (x:GEdge):SIt:=⟨2,⟨#[]⟩,⟨#[]⟩,none,0,x.xs,ey g x.f,x.fp,0,ey g x.t,x.tp,0,0⟩
def eJ (g:Gr) (x:GPort):SIt:=⟨3,x.name,⟨#[]⟩,none,0,[],⟨#[]⟩,0,0,ey g x.ac,x.po,0,0⟩
def dQ (g:Gr) (x:GPort):SIt:=⟨4,x.name,⟨#[]⟩,none,0,[],ey g x.ac,x.po,0,⟨#[]⟩,0,0,0⟩
def df (g:Gr):List SIt:=((g.acts.map bV++g.edges.map (bz g))++g.ins.map (eJ g))++g.outs.map (dQ g)
def da (g:Gr):Sk:=⟨g.name,none,0,df g⟩
theorem eg {l:List SIt} {D:List SIt} {α:Type} {m:List α} {f:α->SIt} {k:Nat} {x:SIt} (h:l.map SIt.bare=D++(m.take k).map f) (hk:k<m.length) (hx:x.bare=f m[k]):(l++[x]).map SIt.bare=D++(m.take (k+1)).map f:=by
 rw[List.map_append,h,List.take_succ_eq_append_getElem hk,List.map_append,List.append_assoc];simp[hx]
theorem fd {l:List SIt} {D:List SIt} {α:Type} {m:List α} {f:α->SIt} {k:Nat} (h:l.map SIt.bare=D++(m.take k).map f):l.length<=D.length+k:=by
 have:=congrArg List.length h;simp only[List.length_map,List.length_append,List.length_take] at this;omega
theorem aw {w:World} {C:Nat} {a0 a1 a2 a3 a4:Value} (h:w.heap[C]? =some (.cells #[a0,a1,a2,a3,a4] 26 (0,0))):
  w.cell? ⟨C,0,none⟩=some a0∧w.cell? ⟨C,1,none⟩=some a1∧w.cell? ⟨C,2,none⟩=some a2∧w.cell? ⟨C,3,none⟩=some a3∧w.cell? ⟨C,4,none⟩=some a4∧C<w.heap.size:=by
 refine⟨?_,?_,?_,?_,?_,(Array.getElem?_eq_some_iff.1 h).1⟩;all_goals rw[cell_of_block h];rfl
set_option maxRecDepth 100000 in
theorem jg (w:World) (G:Nat) (g:Gr) (a:Nat) (p:Int) (hb:w.heap[G]? =some (.cells g.cs 26 (0,0))) (hg:GrAt w g) (ha:a<g.acts.length) (hla:g.acts.length<=9223372036854775807):
  Calls Tryz.prog 69 #[I a,I p,.pointer (some ⟨G,0,none⟩)] w fun e w'=>e= .returned (.agg #[.string g.acts[a].name,I p,I 0])∧New w w':=by
 obtain⟨-,c1,-,-,-,hGl⟩:=aw hb;obtain⟨b,off,hab,q0,q1,q2⟩:=cM hg.sa ha;have haI:(a:Int)<(g.acts.length:Int):=by omega
 have hbw:b<w.heap.size:=World.block_lt_of_cell? w _ q0;rw[hab] at c1;clear hg hb hab;generalize g.acts[a]=x at q0 q1 q2;go_enter Tryz.func69,Tryz.ntmps69;go_wp2_with fail;exact bodyPost_ret (v:= .agg #[.string x.name,I p,I 0]) (by simp[results,Tryz.results69,go_sem]) rfl ⟨rfl,(New.refl w).alloc _⟩
end Go.Proofs.YtnedmonlofbahaaGreatDoor
