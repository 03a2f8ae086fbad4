/-
  GrR, GrS, GrT: what is wanted of them.
-/
import Derived.Test.YtnedmonlofbahaaGreatDoorGwC
set_option maxRecDepth 100000
set_option maxHeartbeats 32000000
namespace Go.Proofs.YtnedmonlofbahaaGreatDoor
open Go Go.RowKit Go.Joins
set_option linter.all false
theorem kL {w:World} {ops:Array Oper} {o:Oper} {a:Act} {K:Act->World->Prop} {Q:Exit->Act->World->Prop} {E:Prop} {dec:Decidable (Region.wanted o (yielded ops a.tmps)=true)} (hgd:o.guard=none) (ho:o.op=Op.alloc 85)
  (h:K (a.put o.dst (.pointer (some ⟨w.heap.size,0,none⟩))) (w.alloc (.cells #[.int .u8 0,I 0,I 0] 85))):
  @ite Prop (Region.wanted o (yielded ops a.tmps)=true) dec (Oper.wp Tryz.prog o a w K Q) E:=by
 have hw:Region.wanted o (yielded ops a.tmps)=true:=by simp[Region.wanted,hgd]
 rw[if_pos hw];have hr:(Instr.alloc 85 true (.tuple #[])).run Tryz.prog w= .ok (.pointer (some ⟨w.heap.size,0,none⟩)) (w.alloc (.cells #[.int .u8 0,I 0,I 0] 85)):=by kernel_rfl
 unfold Oper.wp execOp;simp only[ho,Sem.run_bind,Sem.run_pure,Result.andThen_ok,hr];exact h
def Res (s:Option (Nat×Int×Int)) (kd:Int) (ok:World->Prop) (x k i d:Int) (w':World):Prop:=match s with
 |some (i',x',d')=>x=x'∧k=kd∧i=i'∧d=d'
 |none=>x=0∧k=0∧i=0∧d=0∧ok w'
theorem jm {s:Option (Nat×Int×Int)} {kd:Int} {ok:World->Prop} {e:Ending} {w':World} (h:cW s kd ok e w'):∃x k i d,e= .returned (.tuple #[I x,.agg #[.int .u8 k,I i,I d]])∧Res s kd ok x k i d w':=by
 cases s with
 |some r=>obtain⟨i,x,d⟩:=r;exact⟨x,kd,i,d,h,rfl,rfl,rfl,rfl⟩
 |none=>exact⟨0,0,0,0,h.1,rfl,rfl,rfl,rfl,h.2⟩
theorem Res.to {s:Option (Nat×Int×Int)} {kd:Int} {ok:World->Prop} {x k i d:Int} {w w':World} (h:Res s kd ok x k i d w) (hok:ok w->ok w'):Res s kd ok x k i d w':=by
 cases s with
 |some r=>exact h
 |none=>exact⟨h.1,h.2.1,h.2.2.1,h.2.2.2.1,hok h.2.2.2.2⟩
theorem iO {w:World} {P:Nat} {a b c:Value} (h:w.heap[P]? =some (.cells #[a,b,c] 85 (0,0))) (u v x:Value):(((w.setCell ⟨P,0,none⟩ u).setCell ⟨P,1,none⟩ v).setCell ⟨P,2,none⟩ x).heap[P]? =some (.cells #[u,v,x] 85 (0,0)):=by
 have:=block_setCell (i:=2) (block_setCell (i:=1) (block_setCell (i:=0) h u) v) x;simpa using this
theorem cN {w:World} {P:Nat} (u v x:Value):Keeps (fun k=>k=P) w (((w.setCell ⟨P,0,none⟩ u).setCell ⟨P,1,none⟩ v).setCell ⟨P,2,none⟩ x):=
 ((Keeps.setCell (S:=fun k=>k=P) w _ _ rfl).trans (Keeps.setCell (S:=fun k=>k=P) _ _ _ rfl) (fun _ _ h=>h)).trans (Keeps.setCell (S:=fun k=>k=P) _ _ _ rfl) (fun _ _ h=>h)
theorem cj {α:Type} {E:Nat->α->Int×Int} :∀(l:List α) (i k:Nat) (ed:Int×Int),aD E i l=some (k,ed)->ed.1≠0∧∃x,ed=E k x:=by
 intro l;induction l with
 |nil=>intro i k ed h;cases h
 |cons x r ih=>
  intro i k ed h;unfold aD at h;split at h
  ·cases h;exact⟨‹_›,x,rfl⟩
  ·exact ih _ _ _ h
def fT (r:Option (Nat×Int×Int)) (kd:Int) (rest:Int×Int×Int×Int):Int×Int×Int×Int:=match r with
 |some (i,e,d)=>(e,kd,i,d)
 |none=>rest
def mj (g:Gr):Int×Int×Int×Int:=
 fT (aD (fo g) 0 g.acts) 1 (fT (aD (dd g) 0 g.edges) 2 (fT (aD (inE g) 0 g.ins) 3 (fT (aD (fu g) 0 g.outs) 4 (fT (aD (eH g) 0 g.acts) 1 (0,0,0,0)))))
theorem vy {w:World} {B C M:Nat} {g:Gr} (hb:w.heap[C]? =some (.cells (sY g M none 0 0 none 0 0) 149 (0,0))) (hm:cH w M 0 (fun _=>0)) (hC:B<=C) (hM:B<=M):Chk w B C M g [] none 0 [] none 0 []:=
 ⟨hb,hC,hM,hm.as (fun s=>by simp[nv]),⟨World.ownsRow_nil _ _ _ _,(fun r hr=>by cases hr),(fun r hr=>by cases hr),List.Pairwise.nil⟩,⟨World.ownsRow_nil _ _ _ _,(fun r hr=>by cases hr),(fun r hr=>by cases hr),List.Pairwise.nil⟩,
  (fun k hk=>by obtain⟨x,hx,_⟩:=hk;cases hx),(fun r hr=>by cases hr)⟩
theorem jt (g:Gr):bz g=if(e7 g).1≠0 then e7 g else mj g:=by
 have ht:mj g=(match aD (fo g) 0 g.acts with
  |some (i,e,_)=>(e,1,(i:Int),(0:Int))
  |none=>match aD (dd g) 0 g.edges with
   |some (i,e,d)=>(e,2,(i:Int),d)
   |none=>match aD (inE g) 0 g.ins with
    |some (i,e,d)=>(e,3,(i:Int),d)
    |none=>match aD (fu g) 0 g.outs with
     |some (i,e,d)=>(e,4,(i:Int),d)
     |none=>match aD (fun i x=>(if e8 g i x then 87 else 0,0)) 0 g.acts with
      |some (i,e,_)=>(e,1,(i:Int),(0:Int))
      |none=>(0,0,0,0)):=by
  unfold mj fT;cases h1:aD (fo g) 0 g.acts with
  |some r=>
   obtain⟨i,e,d⟩:=r;obtain⟨-,x,hx⟩:=cj _ _ _ _ h1;rw[qv] at hx;simp only[Prod.mk.injEq] at hx;simp only[hx.2]
  |none=>
   cases h2:aD (dd g) 0 g.edges with
   |some r=>rfl
   |none=>
    cases h3:aD (inE g) 0 g.ins with
    |some r=>rfl
    |none=>
     cases h4:aD (fu g) 0 g.outs with
     |some r=>rfl
     |none=>
      simp only;have he:(fun i x=>(if e8 g i x then 87 else 0,0))=eH g:=rfl;rw[he];cases h5:aD (eH g) 0 g.acts with
      |some r=>
       obtain⟨i,e,d⟩:=r;obtain⟨-,x,hx⟩:=cj _ _ _ _ h5;unfold eH at hx;simp only[Prod.mk.injEq] at hx;simp only[hx.2]
      |none=>rfl
 rw[ht];unfold bz e7 iG;by_cases h0:aQ g.name=false
 ·simp[h0]
 by_cases h1:g.acts.length=0
 ·simp[h0,h1]
 by_cases h2:32<g.acts.length
 ·simp[h0,h1,h2]
 by_cases h3:96<g.edges.length
 ·simp[h0,h1,h2,h3]
 by_cases h4:16<g.ins.length
 ·simp[h0,h1,h2,h3,h4]
 by_cases h5:16<g.outs.length
 ·simp[h0,h1,h2,h3,h4,h5]
 simp only[h0,h1,h2,h3,h4,h5,if_false,ne_eq,not_true_eq_false];rfl
theorem vS {g:Gr} (h:¬(e7 g).1≠0):g.acts.length<=32∧g.ins.length<=16∧g.outs.length<=16:=by
 unfold e7 iG at h;by_cases h0:aQ g.name=false
 ·simp[h0] at h
 by_cases h1:g.acts.length=0
 ·simp[h0,h1] at h
 by_cases h2:32<g.acts.length
 ·simp[h0,h1,h2] at h
 by_cases h3:96<g.edges.length
 ·simp[h0,h1,h2,h3] at h
 by_cases h4:16<g.ins.length
 ·simp[h0,h1,h2,h3,h4] at h
 by_cases h5:16<g.outs.length
 ·simp[h0,h1,h2,h3,h4,h5] at h
 omega
theorem pv (w:World) (g:Gr) (hg:GrAt w g) (hl:GLen g):
  Calls Tryz.prog 45 #[g.v] w fun en w'=>en= .returned (kf (bz g))∧New w w':=by
 rw[jt];have rL:=Lib.hid (@vS g);have HL:=Lib.hid hl;have HG:=Lib.hid hg;have hH:∀W (h:Chk W w.heap.size (w.heap.size+1+1+1) (w.heap.size+1+1) g [] none 0 [] none 0 []),Calls Tryz.prog 83 #[.pointer (some ⟨w.heap.size+1+1+1,0,none⟩)] W fun e w'=>e= .returned (kf (e7 g))∧New W w':=fun W h=>vx W _ _ g _ _ _ _ _ _ h.blk hl
 obtain⟨hd,hhd⟩:∃hd,e7 g=hd:=⟨_,rfl⟩
 rw[hhd] at hH rL ⊢;obtain⟨⟨h0,h1,h2,h3⟩,rfl⟩:∃x,x=hd:=⟨_,rfl⟩
 clear hg hl hhd;obtain⟨r,hr⟩:∃r,(if((h0,h1,h2,h3):Int×Int×Int×Int).1≠0 then(h0,h1,h2,h3) else mj g)=r:=⟨_,rfl⟩
 rw[hr];have HR:=Lib.hid hr;clear hr;have hmm:= @run_makeMap Tryz.prog;simp only[kf,lc] at hH;simp only[Gr.v,Gr.cs];go_enter Tryz.func45,Tryz.ntmps45;go_wp2_with fail;clear hmm;have na:New w (w.alloc (.cells g.cs 26)):=(New.refl w).alloc _;have ha:(w.alloc (.cells g.cs 26)).heap[w.heap.size]? =some (.cells g.cs 26 (0,0)):=heap_alloc_new w _;have sa:(w.alloc (.cells g.cs 26)).heap.size=w.heap.size+1:=aG _ _;simp only[Gr.cs] at na ha sa;generalize(w.alloc (.cells #[.string g.name,.slice g.aa g.acts.length g.ac,.slice g.ea g.edges.length g.ec,.slice g.ia g.ins.length g.ic,.slice g.oa g.outs.length g.oc] 26))=wa at na ha sa ⊢;have nb:New wa (wa.alloc (.cells #[.int .u8 0,I 0,I 0] 85)):=(New.refl wa).alloc _;have hb:(wa.alloc (.cells #[.int .u8 0,I 0,I 0] 85)).heap[wa.heap.size]? =some (.cells #[.int .u8 0,I 0,I 0] 85 (0,0)):=heap_alloc_new wa _;have sb:(wa.alloc (.cells #[.int .u8 0,I 0,I 0] 85)).heap.size=w.heap.size+1+1:=by rw[aG,sa]
 rw[sa] at hb;generalize(wa.alloc (.cells #[.int .u8 0,I 0,I 0] 85))=wb at nb hb sb ⊢;have nc:New wb (wb.alloc (.map #[] 0)):=(New.refl wb).alloc _;have hm:cH (wb.alloc (.map #[] 0)) wb.heap.size 0 (fun _=>0):=cH.made wb;have sc:(wb.alloc (.map #[] 0)).heap.size=w.heap.size+1+1+1:=by rw[aG,sb]
 rw[sb] at hm;generalize(wb.alloc (.map #[] 0))=wc at nc hm sc ⊢;have nd:New wc (wc.alloc (.cells (sY g (w.heap.size+1+1) none 0 0 none 0 0) 149)):=(New.refl wc).alloc _;have hd:(wc.alloc (.cells (sY g (w.heap.size+1+1) none 0 0 none 0 0) 149)).heap[wc.heap.size]? =some (.cells (sY g (w.heap.size+1+1) none 0 0 none 0 0) 149 (0,0)):=heap_alloc_new wc _;rw[sc] at hd;simp only[sY] at nd hd;generalize(wc.alloc (.cells #[.string g.name,.slice g.aa g.acts.length g.ac,.slice g.ea g.edges.length g.ec,.slice g.ia g.ins.length g.ic,.slice g.oa g.outs.length g.oc,.map (some (w.heap.size+1+1)),.slice none 0 0,.slice none 0 0] 149))=W0 at nd hd ⊢;have hC:Chk W0 w.heap.size (w.heap.size+1+1+1) (w.heap.size+1+1) g [] none 0 [] none 0 []:=vy hd (hm.new nd) (by omega) (by omega);have HX:=Lib.hid (Keeps.heap nd (Keeps.heap nc (Keeps.heap nb ha (fun h=>h)) (fun h=>h)) (fun h=>h));have HB:=Lib.hid (Keeps.heap nd (Keeps.heap nc hb (fun h=>h)) (fun h=>h));have hN:New w W0:=((na.trans nb).trans nc).trans nd;clear na nb nc nd ha hb hm hd sa sb sc;refine(hH W0 hC).mono ?_;rintro e W1 ⟨rfl,k1⟩;replace hC:=hC.new k1;replace HX:=Lib.hid (Keeps.heap k1 HX.out (fun h=>h));replace HB:=Lib.hid (Keeps.heap k1 HB.out (fun h=>h));replace hN:=hN.trans k1;clear k1 hH;by_cases e0:h0=0
 case neg=>
  have d0:(h0 != 0)=true:=by simp[e0]
  have HR2:=Lib.hid (show((h0,h1,h2,h3):Int×Int×Int×Int)=r by have:=HR.out;rwa [if_pos e0] at this);clear HR e0;go_wp2_with fail;have ks:New W1 (W1.alloc (.cells #[.int .u8 h1,I h2,I h3] 85)):=(New.refl W1).alloc _;have hp:(W1.alloc (.cells #[.int .u8 h1,I h2,I h3] 85)).heap[W1.heap.size]? =some (.cells #[.int .u8 h1,I h2,I h3] 85 (0,0)):=heap_alloc_new W1 _;have hPW:w.heap.size+1<W1.heap.size:=(Array.getElem?_eq_some_iff.1 HB.out).1;generalize(W1.alloc (.cells #[.int .u8 h1,I h2,I h3] 85))=W2 at ks hp ⊢;generalize W1.heap.size=P at hp hPW ⊢;replace HX:=Lib.hid (Keeps.heap ks HX.out (fun h=>h));replace HB:=Lib.hid (Keeps.heap ks HB.out (fun h=>h));replace hN:=hN.trans ks;replace hC:=hC.new ks;have HP:=Lib.hid hp;clear ks hp;obtain⟨⟨p0,p1,p2⟩,-,hPl⟩:=aJ HP.out;go_wp2_with fail;have hdr:New W2 W2.drew:=(New.refl W2).drew;have hS0:(fun w':World=>w'.cell? ⟨P,0,none⟩=some (.int .u8 h1)∧w'.cell? ⟨P,1,none⟩=some (I h2)∧w'.cell? ⟨P,2,none⟩=some (I h3)∧P<w'.heap.size) W2.drew:=⟨hdr.cell p0,hdr.cell p1,hdr.cell p2,hPl⟩
  obtain⟨⟨r0,r1,r2⟩,⟨f0,f1,f2⟩,hBB⟩:=aJ HB.out;clear p0 p1 p2 hPl;refine aj (fun w':World=>w'.cell? ⟨P,0,none⟩=some (.int .u8 h1)∧w'.cell? ⟨P,1,none⟩=some (I h2)∧w'.cell? ⟨P,2,none⟩=some (I h3)∧P<w'.heap.size) [3] (by kernel_rfl) hS0 ?_;refine ae 0 hS0 ?_;refine ae 1 hS0 ?_;refine ae 2 hS0 ?_;refine ag 3 ?_;intro K hK;(try simp only[Act.put,sLs])
  go_simp;refine hK _ _ (fun hx=>by cases hx) ?_;clear hK K;refine av (by kernel_rfl) ?_;(try simp only[Act.put,sLs])
  (try simp only[Exit.then])
  go_wp2_with fail;exact bodyPost_ret (v:= .tuple #[I h0,.agg #[.int .u8 h1,I h2,I h3]]) (by simp[results,Tryz.results45,go_sem,r0,r1,r2,f0,f1,f2,hBB]) rfl ⟨by rw[<-HR2.out];rfl,((hN.drew.setCell (by simp) _).setCell (by simp) _).setCell (by simp) _⟩
 have d0:(h0 != 0)=false:=by simp[e0]
 obtain⟨hal,hpi,hpo⟩:=rL.out (fun h=>h e0);have HT:=Lib.hid (show mj g=r by have:=HR.out;rwa [if_neg (fun h=>h e0)] at this);clear HR rL e0;unfold mj at HT;have HA:∀W (k:New w W) (h:Chk W w.heap.size (w.heap.size+1+1+1) (w.heap.size+1+1) g [] none 0 [] none 0 []),Calls Tryz.prog 84 #[.pointer (some ⟨w.heap.size+1+1+1,0,none⟩)] W fun e w'=>cW (aD (fo g) 0 g.acts) 1 (fun w'=>∃ia ic IL oa oc OL,Chk w' w.heap.size (w.heap.size+1+1+1) (w.heap.size+1+1) g (aw g g.acts.length 0 0) ia ic IL oa oc OL∧IL.map (·.2)=cn g nIn (fun _ _=>false)∧OL.map (·.2)=cn g cr (fun _ _=>false)) e w'∧KB w.heap.size W w':=fun W k h=>rp w W _ _ _ g HG.out k rfl HL.out hal h
 have HE:∀(W:World) (ia:Option Addr) (ic:Nat) (IL:List (Nat×List Bool)) (oa:Option Addr) (oc:Nat) (OL:List (Nat×List Bool)) (k:New w W) (h:Chk W w.heap.size (w.heap.size+1+1+1) (w.heap.size+1+1) g (aw g g.acts.length 0 0) ia ic IL oa oc OL) (hi:Hid (IL.map (·.2)=cn g nIn (fun _ _=>false))) (ho:Hid (OL.map (·.2)=cn g cr (fun _ _=>false))),Calls Tryz.prog 85 #[.pointer (some ⟨w.heap.size+1+1+1,0,none⟩)] W fun e w'=>cW (aD (dd g) 0 g.edges) 2 (fun w'=>∃IL OL,Chk w' w.heap.size (w.heap.size+1+1+1) (w.heap.size+1+1) g (aw g g.acts.length 0 0) ia ic IL oa oc OL∧IL.map (·.2)=cn g nIn (bZ g g.edges.length 0)∧OL.map (·.2)=cn g cr (aZ g g.edges.length 0)) e w'∧KP w.heap.size W w':=fun W ia ic IL oa oc OL k h hi ho=>sX w W _ _ _ g _ _ _ _ _ _ _ HG.out k rfl HL.out hal h hi.out ho.out
 have HI:∀(W:World) (ia:Option Addr) (ic:Nat) (IL:List (Nat×List Bool)) (oa:Option Addr) (oc:Nat) (OL:List (Nat×List Bool)) (k:New w W) (h:Chk W w.heap.size (w.heap.size+1+1+1) (w.heap.size+1+1) g (aw g g.acts.length 0 0) ia ic IL oa oc OL) (hi:Hid (IL.map (·.2)=cn g nIn (bZ g g.edges.length 0))),Calls Tryz.prog 86 #[.pointer (some ⟨w.heap.size+1+1+1,0,none⟩),.slice g.ia g.ins.length g.ic,.slice ia IL.length ic,.int .u8 3,I 2] W fun e w'=>cW (aD (inE g) 0 g.ins) 3 (fun w'=>∃L,Chk w' w.heap.size (w.heap.size+1+1+1) (w.heap.size+1+1) g (aw g g.acts.length g.ins.length 0) ia ic L oa oc OL∧L.map (·.2)=cn g nIn (bZ g g.edges.length g.ins.length)) e w'∧KP w.heap.size W w':=fun W ia ic IL oa oc OL k h hi=>by
  rw[fW hi.out];exact rv w W _ _ _ g ia ic IL oa oc OL HG.out k rfl HL.out hal hpi hpo h hi.out
 have HO:∀(W:World) (ia:Option Addr) (ic:Nat) (IL:List (Nat×List Bool)) (oa:Option Addr) (oc:Nat) (OL:List (Nat×List Bool)) (k:New w W) (h:Chk W w.heap.size (w.heap.size+1+1+1) (w.heap.size+1+1) g (aw g g.acts.length g.ins.length 0) ia ic IL oa oc OL) (ho:Hid (OL.map (·.2)=cn g cr (aZ g g.edges.length 0))),Calls Tryz.prog 86 #[.pointer (some ⟨w.heap.size+1+1+1,0,none⟩),.slice g.oa g.outs.length g.oc,.slice oa OL.length oc,.int .u8 4,I 1] W fun e w'=>cW (aD (fu g) 0 g.outs) 4 (fun w'=>∃L,Chk w' w.heap.size (w.heap.size+1+1+1) (w.heap.size+1+1) g (aw g g.acts.length g.ins.length g.outs.length) ia ic IL oa oc L∧L.map (·.2)=cn g cr (aZ g g.edges.length g.outs.length)) e w'∧KP w.heap.size W w':=fun W ia ic IL oa oc OL k h ho=>by
  rw[fW ho.out];exact rx w W _ _ _ g ia ic IL oa oc OL HG.out k rfl HL.out hal hpi hpo h ho.out
 have HQ:∀(W:World) (ia:Option Addr) (ic:Nat) (IL:List (Nat×List Bool)) (oa:Option Addr) (oc:Nat) (OL:List (Nat×List Bool)) (k:New w W) (h:Chk W w.heap.size (w.heap.size+1+1+1) (w.heap.size+1+1) g (aw g g.acts.length g.ins.length g.outs.length) ia ic IL oa oc OL) (hi:Hid (IL.map (·.2)=cn g nIn (bZ g g.edges.length g.ins.length))) (ho:Hid (OL.map (·.2)=cn g cr (aZ g g.edges.length g.outs.length))),Calls Tryz.prog 87 #[.pointer (some ⟨w.heap.size+1+1+1,0,none⟩)] W fun e w'=>cW (aD (eH g) 0 g.acts) 1 (fun _=>True) e w'∧KP w.heap.size W w':=fun W ia ic IL oa oc OL k h hi ho=>vB W _ _ _ g _ _ _ _ _ _ _ hal h hi.out ho.out
 have n1:∀k ed,aD (fo g) 0 g.acts=some (k,ed)->ed.1≠0:=fun k ed h=>(cj _ _ _ _ h).1
 have n2:∀k ed,aD (dd g) 0 g.edges=some (k,ed)->ed.1≠0:=fun k ed h=>(cj _ _ _ _ h).1
 have n3:∀k ed,aD (inE g) 0 g.ins=some (k,ed)->ed.1≠0:=fun k ed h=>(cj _ _ _ _ h).1
 have n4:∀k ed,aD (fu g) 0 g.outs=some (k,ed)->ed.1≠0:=fun k ed h=>(cj _ _ _ _ h).1
 have n5:∀k ed,aD (eH g) 0 g.acts=some (k,ed)->ed.1≠0:=fun k ed h=>(cj _ _ _ _ h).1
 generalize aD (fo g) 0 g.acts=s1 at HT n1 HA;generalize aD (dd g) 0 g.edges=s2 at HT n2 HE;generalize aD (inE g) 0 g.ins=s3 at HT n3 HI;generalize aD (fu g) 0 g.outs=s4 at HT n4 HO;generalize aD (eH g) 0 g.acts=s5 at HT n5 HQ;clear HG HL hal hpi hpo;go_wp2_with fail;have ks:New W1 (W1.alloc (.cells #[.int .u8 h1,I h2,I h3] 85)):=(New.refl W1).alloc _;have hp:(W1.alloc (.cells #[.int .u8 h1,I h2,I h3] 85)).heap[W1.heap.size]? =some (.cells #[.int .u8 h1,I h2,I h3] 85 (0,0)):=heap_alloc_new W1 _;have hPW:w.heap.size+1<W1.heap.size:=(Array.getElem?_eq_some_iff.1 HB.out).1;generalize(W1.alloc (.cells #[.int .u8 h1,I h2,I h3] 85))=W2 at ks hp ⊢;generalize W1.heap.size=P at hp hPW ⊢;replace HX:=Lib.hid (Keeps.heap ks HX.out (fun h=>h));replace HB:=Lib.hid (Keeps.heap ks HB.out (fun h=>h));replace hN:=hN.trans ks;replace hC:=hC.new ks;have HP:=Lib.hid hp;clear ks hp;clear HP hPW;go_wp2_with fail;refine(HA W2 hN hC).mono ?_;rintro e W3 ⟨hs,kb⟩;replace HX:=Lib.hid (kb.heap HX.out rfl);replace HB:=Lib.hid (kb.heap HB.out rfl);replace hN:=kb.new rfl hN;clear kb;cases s1 with
 |some sx=>
  obtain⟨i,x,d⟩:=sx;have hx:x≠0:=n1 i (x,d) rfl;have dx:(x != 0)=true:=by simp[hx]
  have HR2:=Lib.hid (show((x,1,(i:Int),d):Int×Int×Int×Int)=r from HT.out);simp only[cW,lc] at hs;subst hs;clear HT hx n1;go_wp2_with fail;have ks:New W3 (W3.alloc (.cells #[.int .u8 1,I i,I d] 85)):=(New.refl W3).alloc _;have hp:(W3.alloc (.cells #[.int .u8 1,I i,I d] 85)).heap[W3.heap.size]? =some (.cells #[.int .u8 1,I i,I d] 85 (0,0)):=heap_alloc_new W3 _;have hPW:w.heap.size+1<W3.heap.size:=(Array.getElem?_eq_some_iff.1 HB.out).1;generalize(W3.alloc (.cells #[.int .u8 1,I i,I d] 85))=W4 at ks hp ⊢;generalize W3.heap.size=P at hp hPW ⊢;replace HB:=Lib.hid (Keeps.heap ks HB.out (fun h=>h));replace hN:=hN.trans ks;have HP:=Lib.hid hp;clear ks hp;obtain⟨⟨p0,p1,p2⟩,-,hPl⟩:=aJ HP.out;go_wp2_with fail;have hdr:New W4 W4.drew:=(New.refl W4).drew;have hS0:(fun w':World=>w'.cell? ⟨P,0,none⟩=some (.int .u8 1)∧w'.cell? ⟨P,1,none⟩=some (I i)∧w'.cell? ⟨P,2,none⟩=some (I d)∧P<w'.heap.size) W4.drew:=⟨hdr.cell p0,hdr.cell p1,hdr.cell p2,hPl⟩
  obtain⟨⟨r0,r1,r2⟩,⟨f0,f1,f2⟩,hBB⟩:=aJ HB.out;clear p0 p1 p2 hPl;refine aj (fun w':World=>w'.cell? ⟨P,0,none⟩=some (.int .u8 1)∧w'.cell? ⟨P,1,none⟩=some (I i)∧w'.cell? ⟨P,2,none⟩=some (I d)∧P<w'.heap.size) [3] (by kernel_rfl) hS0 ?_;refine ae 0 hS0 ?_;refine ae 1 hS0 ?_;refine ae 2 hS0 ?_;refine ag 3 ?_;intro K hK;(try simp only[Act.put,sLs])
  go_simp;refine hK _ _ (fun hx=>by cases hx) ?_;clear hK K;refine av (by kernel_rfl) ?_;(try simp only[Act.put,sLs])
  (try simp only[Exit.then])
  go_wp2_with fail;exact bodyPost_ret (v:= .tuple #[I x,.agg #[.int .u8 1,I i,I d]]) (by simp[results,Tryz.results45,go_sem,r0,r1,r2,f0,f1,f2,hBB]) rfl ⟨by rw[<-HR2.out];rfl,((hN.drew.setCell (by simp) _).setCell (by simp) _).setCell (by simp) _⟩
 |none=>
  simp only[cW,lc] at hs;obtain⟨rfl,ia,ic,IL,oa,oc,OL,hC2,hi,ho⟩:=hs;have HT2:=Lib.hid (show fT s2 2 (fT s3 3 (fT s4 4 (fT s5 1 (0,0,0,0))))=r from HT.out);have Hi:=Lib.hid hi;have Ho:=Lib.hid ho;replace hC:=hC2;clear HT n1 HA hi ho hC2;go_wp2_with fail;have ks:New W3 (W3.alloc (.cells #[.int .u8 0,I 0,I 0] 85)):=(New.refl W3).alloc _;have hp:(W3.alloc (.cells #[.int .u8 0,I 0,I 0] 85)).heap[W3.heap.size]? =some (.cells #[.int .u8 0,I 0,I 0] 85 (0,0)):=heap_alloc_new W3 _;have hPW:w.heap.size+1<W3.heap.size:=(Array.getElem?_eq_some_iff.1 HB.out).1;generalize(W3.alloc (.cells #[.int .u8 0,I 0,I 0] 85))=W4 at ks hp ⊢;generalize W3.heap.size=P at hp hPW ⊢;replace HX:=Lib.hid (Keeps.heap ks HX.out (fun h=>h));replace HB:=Lib.hid (Keeps.heap ks HB.out (fun h=>h));replace hN:=hN.trans ks;replace hC:=hC.new ks;have HP:=Lib.hid hp;clear ks hp;clear HP hPW;replace HT:=HT2;clear HT2;go_wp2_with fail;refine(HE W4 ia ic IL oa oc OL hN hC Hi Ho).mono ?_;rintro e W5 ⟨hs,kb⟩;replace HX:=Lib.hid (kb.heap HX.out rfl);replace HB:=Lib.hid (kb.heap HB.out rfl);replace hN:=kb.new rfl hN;clear kb;cases s2 with
  |some sx=>
   obtain⟨i,x,d⟩:=sx;have hx:x≠0:=n2 i (x,d) rfl;have dx:(x != 0)=true:=by simp[hx]
   have HR2:=Lib.hid (show((x,2,(i:Int),d):Int×Int×Int×Int)=r from HT.out);simp only[cW,lc] at hs;subst hs;clear HT hx n2;go_wp2_with fail;have ks:New W5 (W5.alloc (.cells #[.int .u8 2,I i,I d] 85)):=(New.refl W5).alloc _;have hp:(W5.alloc (.cells #[.int .u8 2,I i,I d] 85)).heap[W5.heap.size]? =some (.cells #[.int .u8 2,I i,I d] 85 (0,0)):=heap_alloc_new W5 _;have hPW:w.heap.size+1<W5.heap.size:=(Array.getElem?_eq_some_iff.1 HB.out).1;generalize(W5.alloc (.cells #[.int .u8 2,I i,I d] 85))=W6 at ks hp ⊢;generalize W5.heap.size=P at hp hPW ⊢;replace HB:=Lib.hid (Keeps.heap ks HB.out (fun h=>h));replace hN:=hN.trans ks;have HP:=Lib.hid hp;clear ks hp;obtain⟨⟨p0,p1,p2⟩,-,hPl⟩:=aJ HP.out;go_wp2_with fail;have hdr:New W6 W6.drew:=(New.refl W6).drew;have hS0:(fun w':World=>w'.cell? ⟨P,0,none⟩=some (.int .u8 2)∧w'.cell? ⟨P,1,none⟩=some (I i)∧w'.cell? ⟨P,2,none⟩=some (I d)∧P<w'.heap.size) W6.drew:=⟨hdr.cell p0,hdr.cell p1,hdr.cell p2,hPl⟩
   obtain⟨⟨r0,r1,r2⟩,⟨f0,f1,f2⟩,hBB⟩:=aJ HB.out;clear p0 p1 p2 hPl;refine aj (fun w':World=>w'.cell? ⟨P,0,none⟩=some (.int .u8 2)∧w'.cell? ⟨P,1,none⟩=some (I i)∧w'.cell? ⟨P,2,none⟩=some (I d)∧P<w'.heap.size) [3] (by kernel_rfl) hS0 ?_;refine ae 0 hS0 ?_;refine ae 1 hS0 ?_;refine ae 2 hS0 ?_;refine ag 3 ?_;intro K hK;(try simp only[Act.put,sLs])
   go_simp;refine hK _ _ (fun hx=>by cases hx) ?_;clear hK K;refine av (by kernel_rfl) ?_;(try simp only[Act.put,sLs])
   (try simp only[Exit.then])
   go_wp2_with fail;exact bodyPost_ret (v:= .tuple #[I x,.agg #[.int .u8 2,I i,I d]]) (by simp[results,Tryz.results45,go_sem,r0,r1,r2,f0,f1,f2,hBB]) rfl ⟨by rw[<-HR2.out];rfl,((hN.drew.setCell (by simp) _).setCell (by simp) _).setCell (by simp) _⟩
  |none=>
   simp only[cW,lc] at hs;obtain⟨rfl,IL2,OL2,hC2,hi,ho⟩:=hs;have HT2:=Lib.hid (show fT s3 3 (fT s4 4 (fT s5 1 (0,0,0,0)))=r from HT.out);replace Hi:=Lib.hid hi;replace Ho:=Lib.hid ho;replace hC:=hC2;clear HT n2 HE hi ho hC2;go_wp2_with fail;have ks:New W5 (W5.alloc (.cells #[.int .u8 0,I 0,I 0] 85)):=(New.refl W5).alloc _;have hp:(W5.alloc (.cells #[.int .u8 0,I 0,I 0] 85)).heap[W5.heap.size]? =some (.cells #[.int .u8 0,I 0,I 0] 85 (0,0)):=heap_alloc_new W5 _;have hPW:w.heap.size+1<W5.heap.size:=(Array.getElem?_eq_some_iff.1 HB.out).1;generalize(W5.alloc (.cells #[.int .u8 0,I 0,I 0] 85))=W6 at ks hp ⊢;generalize W5.heap.size=P at hp hPW ⊢;replace HX:=Lib.hid (Keeps.heap ks HX.out (fun h=>h));replace HB:=Lib.hid (Keeps.heap ks HB.out (fun h=>h));replace hN:=hN.trans ks;replace hC:=hC.new ks;have HP:=Lib.hid hp;clear ks hp;clear HP hPW;replace HT:=HT2;clear HT2;go_wp2_with fail;obtain⟨ok,hok⟩:∃ok,(fun w'=>∃L,Chk w' w.heap.size (w.heap.size+1+1+1) (w.heap.size+1+1) g (aw g g.acts.length g.ins.length 0) ia ic L oa oc OL2∧L.map (·.2)=cn g nIn (bZ g g.edges.length g.ins.length))=ok:=⟨_,rfl⟩
   have hc0:∀W,New w W->Chk W w.heap.size (w.heap.size+1+1+1) (w.heap.size+1+1) g (aw g g.acts.length 0 0) ia ic IL2 oa oc OL2->Calls Tryz.prog 86 #[.pointer (some ⟨w.heap.size+1+1+1,0,none⟩),.slice g.ia g.ins.length g.ic,.slice ia IL2.length ic,.int .u8 3,I 2] W fun e w'=>cW s3 3 ok e w'∧KP w.heap.size W w':=fun W k h=>by
    rw[<-hok];exact HI W ia ic IL2 oa oc OL2 k h Hi
   have yy:∀W W',New W W'->ok W->ok W':=fun W W' k h=>by
    rw[<-hok] at h ⊢;obtain⟨L,h1,h2⟩:=h;exact⟨L,h1.new k,h2⟩
   have tz:∀(W:World) (P:Nat) (cs:Array Value) (u v x:Value),W.heap[P]? =some (.cells cs 85 (0,0))->ok W->ok (((W.setCell ⟨P,0,none⟩ u).setCell ⟨P,1,none⟩ v).setCell ⟨P,2,none⟩ x):=fun W P cs u v x hp h=>by
    rw[<-hok] at h ⊢;obtain⟨L,h1,h2⟩:=h;exact⟨L,h1.spot hp u v x,h2⟩
   have Hok:=Lib.hid hok;clear hok HI;go_cut [11,12] (fun e p w'=>∃(x k i d:Int) (P:Nat),e=I x∧p= .pointer (some ⟨P,0,none⟩)∧Hid (Res s3 3 ok x k i d w'∧w'.heap[P]? =some (.cells #[.int .u8 k,I i,I d] 85 (0,0))∧w.heap.size+1<P∧
    w'.heap[w.heap.size]? =some (.cells #[.string g.name,.slice g.aa g.acts.length g.ac,.slice g.ea g.edges.length g.ec,.slice g.ia g.ins.length g.ic,.slice g.oa g.outs.length g.oc] 26 (0,0))∧w'.heap[w.heap.size+1]? =some (.cells #[.int .u8 0,I 0,I 0] 85 (0,0))∧New w w'))
   case first=>
    obtain⟨⟨-,-,-,-,-,-,c6,c7⟩,-,hCl⟩:=dk hC.blk;have gI:W6.cell? ⟨w.heap.size,3,none⟩=some (.slice g.ia g.ins.length g.ic):=by rw[cell_of_block HX.out 3];rfl
    have hXl:w.heap.size<W6.heap.size:=(Array.getElem?_eq_some_iff.1 HX.out).1;have hdr:New W6 W6.drew:=(New.refl W6).drew;have HCB:=Lib.hid hC.blk;have hS0:(fun w':World=>w'.cell? ⟨w.heap.size+1+1+1,6,none⟩=some (.slice ia IL2.length ic)∧w'.cell? ⟨w.heap.size,3,none⟩=some (.slice g.ia g.ins.length g.ic)∧w.heap.size+1+1+1<w'.heap.size∧w.heap.size<w'.heap.size) W6.drew:=⟨hdr.cell c6,hdr.cell gI,hCl,hXl⟩
    have HS:∀V,KP w.heap.size W6 V->(fun w':World=>w'.cell? ⟨w.heap.size+1+1+1,6,none⟩=some (.slice ia IL2.length ic)∧w'.cell? ⟨w.heap.size,3,none⟩=some (.slice g.ia g.ins.length g.ic)∧w.heap.size+1+1+1<w'.heap.size∧w.heap.size<w'.heap.size) V:=fun V k=>⟨by rw[cell_of_block (k.heap HCB.out rfl) 6];rfl,by rw[cell_of_block (k.heap HX.out rfl) 3];rfl,Nat.lt_of_lt_of_le hCl k.size,Nat.lt_of_lt_of_le hXl k.size⟩
    have hk0:KP w.heap.size W6 W6.drew:=KXg.of_new hdr;clear c6 c7 gI hXl hCl;refine aj (fun w':World=>w'.cell? ⟨w.heap.size+1+1+1,6,none⟩=some (.slice ia IL2.length ic)∧w'.cell? ⟨w.heap.size,3,none⟩=some (.slice g.ia g.ins.length g.ic)∧w.heap.size+1+1+1<w'.heap.size∧w.heap.size<w'.heap.size) [13] (by kernel_rfl) hS0 ?_;refine ae 0 hS0 ?_;refine ae 1 hS0 ?_;refine ae 2 hS0 ?_;refine ae 3 hS0 ?_;refine ae 4 hS0 ?_;refine ae 5 hS0 ?_;refine ae 6 hS0 ?_;refine re 7 11 (by kernel_rfl) ?_ ?_
    ·intro oi ho;simp only[sLq] at ho;subst ho;intro K hK;(try simp only[Act.put,sLs])
     go_simp;refine(hc0 W6.drew (hN.trans hdr) (hC.new hdr)).mono ?_;rintro e VA ⟨hs,kb⟩;obtain⟨x,kk,i,d,rfl,eC⟩:=jm hs;have kA:=hk0.trans kb;have HSA:=HS VA kA;refine hK _ _ (fun _=>HSA) ?_;clear hK K hs kb hS0;refine ae 8 HSA ?_;refine ae 9 HSA ?_;refine ae 10 HSA ?_;refine ag 11 ?_;intro K hK;refine kL ?_ ?_ ?_
     ·rfl
     ·rfl
     have ks:New VA (VA.alloc (.cells #[.int .u8 0,I 0,I 0] 85)):=(New.refl VA).alloc _;have hp:(VA.alloc (.cells #[.int .u8 0,I 0,I 0] 85)).heap[VA.heap.size]? =some (.cells #[.int .u8 0,I 0,I 0] 85 (0,0)):=heap_alloc_new VA _;have hPW:w.heap.size+1<VA.heap.size:=Nat.lt_of_lt_of_le (Array.getElem?_eq_some_iff.1 HB.out).1 kA.size;generalize(VA.alloc (.cells #[.int .u8 0,I 0,I 0] 85))=VB at ks hp hK ⊢;generalize VA.heap.size=P at hp hPW ⊢;have kB:=kA.trans (KXg.of_new ks);have HSB:=HS VB kB;have HRB:=Lib.hid (eC.to (yy _ _ ks));have HPB:=Lib.hid hp;refine hK _ _ (fun _=>HSB) ?_;clear hK K eC ks hp HSA kA;refine ae 12 HSB ?_;obtain⟨⟨p0,p1,p2⟩,⟨f0,f1,f2⟩,hPl⟩:=aJ HPB.out;refine ag 13 ?_;intro K hK;(try simp only[Act.put,sLs])
     go_simp;refine hK _ _ (fun hx=>by cases hx) ?_;clear hK K;refine av (by kernel_rfl) ?_;(try simp only[Act.put,sLs])
     (try simp only[Exit.then])
     go_wp2
     go_meet
     case rel=>
      refine⟨x,kk,i,d,P,rfl,rfl,Lib.hid ⟨HRB.out.to (tz _ _ _ _ _ _ HPB.out),iO HPB.out _ _ _,hPW,?_,?_,?_⟩⟩
      ·exact(cN _ _ _).heap (kB.heap HX.out rfl) (by omega)
      ·exact(cN _ _ _).heap (kB.heap HB.out rfl) (by omega)
      ·exact New.keeps (kB.new rfl hN) (cN _ _ _) (fun i hi=>by omega)
    ·intro oi ho;simp only[sLq] at ho;subst ho;intro K hK;refine kL ?_ ?_ ?_
     ·rfl
     ·rfl
     have ks:New W6.drew (W6.drew.alloc (.cells #[.int .u8 0,I 0,I 0] 85)):=(New.refl _).alloc _;have hp:(W6.drew.alloc (.cells #[.int .u8 0,I 0,I 0] 85)).heap[W6.drew.heap.size]? =some (.cells #[.int .u8 0,I 0,I 0] 85 (0,0)):=heap_alloc_new W6.drew _;have hPW:w.heap.size+1<W6.drew.heap.size:=Nat.lt_of_lt_of_le (Array.getElem?_eq_some_iff.1 HB.out).1 hk0.size;generalize(W6.drew.alloc (.cells #[.int .u8 0,I 0,I 0] 85))=VA at ks hp hK ⊢;generalize W6.drew.heap.size=P at hp hPW ⊢;have kA:=hk0.trans (KXg.of_new ks);have HSA:=HS VA kA;refine hK _ _ (fun _=>HSA) ?_;clear hK K hS0;refine ag 7 ?_;intro K hK;(try simp only[Act.put,sLs])
     go_simp;refine(hc0 VA (kA.new rfl hN) ((hC.new hdr).new ks)).mono ?_;rintro e VB ⟨hs,kb⟩;obtain⟨x,kk,i,d,rfl,eC⟩:=jm hs;have kB:=kA.trans kb;have HSB:=HS VB kB;have HRB:=Lib.hid eC;have HPB:=Lib.hid (kb.heap hp rfl);refine hK _ _ (fun _=>HSB) ?_;clear hK K hs kb eC ks hp HSA kA;refine ae 8 HSB ?_;refine ae 9 HSB ?_;refine ae 10 HSB ?_;refine ae 12 HSB ?_;obtain⟨⟨p0,p1,p2⟩,⟨f0,f1,f2⟩,hPl⟩:=aJ HPB.out;refine ag 13 ?_;intro K hK;(try simp only[Act.put,sLs])
     go_simp;refine hK _ _ (fun hx=>by cases hx) ?_;clear hK K;refine av (by kernel_rfl) ?_;(try simp only[Act.put,sLs])
     (try simp only[Exit.then])
     go_wp2
     go_meet
     case rel=>
      refine⟨x,kk,i,d,P,rfl,rfl,Lib.hid ⟨HRB.out.to (tz _ _ _ _ _ _ HPB.out),iO HPB.out _ _ _,hPW,?_,?_,?_⟩⟩
      ·exact(cN _ _ _).heap (kB.heap HX.out rfl) (by omega)
      ·exact(cN _ _ _).heap (kB.heap HB.out rfl) (by omega)
      ·exact New.keeps (kB.new rfl hN) (cN _ _ _) (fun i hi=>by omega)
   case rest=>
    obtain⟨x,kk,i,d,P,rfl,rfl,HZ⟩:=hcut;obtain⟨W7,hW⟩:∃W,W=wc:=⟨_,rfl⟩
    subst hW;obtain⟨eC,hp,hPW,hx0,hb0,hN0⟩:=HZ.out;have HP:=Lib.hid hp;replace HX:=Lib.hid hx0;replace HB:=Lib.hid hb0;replace hN:=hN0;clear hp hx0 hb0 hN0 HZ hC;cases s3 with
    |some sx=>
     obtain⟨i',x',d'⟩:=sx;obtain⟨e1,e2,e3,e4⟩:=eC;have hx:x≠0:=by rw[e1];exact n3 i' (x',d') rfl
     have dx:(x != 0)=true:=by simp[hx]
     have HR2:=Lib.hid (show((x,kk,i,d):Int×Int×Int×Int)=r by rw[e1,e2,e3,e4];exact HT.out);clear HT hx n3 e1 e2 e3 e4;go_wp2_with fail;obtain⟨⟨p0,p1,p2⟩,-,hPl⟩:=aJ HP.out;go_wp2_with fail;have hdr:New W7 W7.drew:=(New.refl W7).drew;have hS0:(fun w':World=>w'.cell? ⟨P,0,none⟩=some (.int .u8 kk)∧w'.cell? ⟨P,1,none⟩=some (I i)∧w'.cell? ⟨P,2,none⟩=some (I d)∧P<w'.heap.size) W7.drew:=⟨hdr.cell p0,hdr.cell p1,hdr.cell p2,hPl⟩
     obtain⟨⟨r0,r1,r2⟩,⟨f0,f1,f2⟩,hBB⟩:=aJ HB.out;clear p0 p1 p2 hPl;refine aj (fun w':World=>w'.cell? ⟨P,0,none⟩=some (.int .u8 kk)∧w'.cell? ⟨P,1,none⟩=some (I i)∧w'.cell? ⟨P,2,none⟩=some (I d)∧P<w'.heap.size) [3] (by kernel_rfl) hS0 ?_;refine ae 0 hS0 ?_;refine ae 1 hS0 ?_;refine ae 2 hS0 ?_;refine ag 3 ?_;intro K hK;(try simp only[Act.put,sLs])
     go_simp;refine hK _ _ (fun hx=>by cases hx) ?_;clear hK K;refine av (by kernel_rfl) ?_;(try simp only[Act.put,sLs])
     (try simp only[Exit.then])
     go_wp2_with fail;exact bodyPost_ret (v:= .tuple #[I x,.agg #[.int .u8 kk,I i,I d]]) (by simp[results,Tryz.results45,go_sem,r0,r1,r2,f0,f1,f2,hBB]) rfl ⟨by rw[<-HR2.out];rfl,((hN.drew.setCell (by simp) _).setCell (by simp) _).setCell (by simp) _⟩
    |none=>
     obtain⟨rfl,rfl,rfl,rfl,hk⟩:=eC;rw[<-Hok.out] at hk;obtain⟨IL3,hC,hi⟩:=hk;have Db:=Lib.hid hi;have HT2:=Lib.hid (show fT s4 4 (fT s5 1 (0,0,0,0))=r from HT.out);replace HT:=HT2;clear HT2 hi Hok hc0 yy tz HP hPW n3;go_wp2_with fail;obtain⟨ok,hok⟩:∃ok,(fun w'=>∃L,Chk w' w.heap.size (w.heap.size+1+1+1) (w.heap.size+1+1) g (aw g g.acts.length g.ins.length g.outs.length) ia ic IL3 oa oc L∧L.map (·.2)=cn g cr (aZ g g.edges.length g.outs.length))=ok:=⟨_,rfl⟩
     have hc0:∀W,New w W->Chk W w.heap.size (w.heap.size+1+1+1) (w.heap.size+1+1) g (aw g g.acts.length g.ins.length 0) ia ic IL3 oa oc OL2->Calls Tryz.prog 86 #[.pointer (some ⟨w.heap.size+1+1+1,0,none⟩),.slice g.oa g.outs.length g.oc,.slice oa OL2.length oc,.int .u8 4,I 1] W fun e w'=>cW s4 4 ok e w'∧KP w.heap.size W w':=fun W k h=>by
      rw[<-hok];exact HO W ia ic IL3 oa oc OL2 k h Ho
     have yy:∀W W',New W W'->ok W->ok W':=fun W W' k h=>by
      rw[<-hok] at h ⊢;obtain⟨L,h1,h2⟩:=h;exact⟨L,h1.new k,h2⟩
     have tz:∀(W:World) (P:Nat) (cs:Array Value) (u v x:Value),W.heap[P]? =some (.cells cs 85 (0,0))->ok W->ok (((W.setCell ⟨P,0,none⟩ u).setCell ⟨P,1,none⟩ v).setCell ⟨P,2,none⟩ x):=fun W P cs u v x hp h=>by
      rw[<-hok] at h ⊢;obtain⟨L,h1,h2⟩:=h;exact⟨L,h1.spot hp u v x,h2⟩
     have Hok:=Lib.hid hok;clear hok HO;go_cut [13,14] (fun e p w'=>∃(x k i d:Int) (P:Nat),e=I x∧p= .pointer (some ⟨P,0,none⟩)∧Hid (Res s4 4 ok x k i d w'∧w'.heap[P]? =some (.cells #[.int .u8 k,I i,I d] 85 (0,0))∧w.heap.size+1<P∧
      w'.heap[w.heap.size]? =some (.cells #[.string g.name,.slice g.aa g.acts.length g.ac,.slice g.ea g.edges.length g.ec,.slice g.ia g.ins.length g.ic,.slice g.oa g.outs.length g.oc] 26 (0,0))∧w'.heap[w.heap.size+1]? =some (.cells #[.int .u8 0,I 0,I 0] 85 (0,0))∧New w w'))
     case first=>
      obtain⟨⟨-,-,-,-,-,-,c6,c7⟩,-,hCl⟩:=dk hC.blk;have gI:W7.cell? ⟨w.heap.size,4,none⟩=some (.slice g.oa g.outs.length g.oc):=by rw[cell_of_block HX.out 4];rfl
      have hXl:w.heap.size<W7.heap.size:=(Array.getElem?_eq_some_iff.1 HX.out).1;have hdr:New W7 W7.drew:=(New.refl W7).drew;have HCB:=Lib.hid hC.blk;have hS0:(fun w':World=>w'.cell? ⟨w.heap.size+1+1+1,7,none⟩=some (.slice oa OL2.length oc)∧w'.cell? ⟨w.heap.size,4,none⟩=some (.slice g.oa g.outs.length g.oc)∧w.heap.size+1+1+1<w'.heap.size∧w.heap.size<w'.heap.size) W7.drew:=⟨hdr.cell c7,hdr.cell gI,hCl,hXl⟩
      have HS:∀V,KP w.heap.size W7 V->(fun w':World=>w'.cell? ⟨w.heap.size+1+1+1,7,none⟩=some (.slice oa OL2.length oc)∧w'.cell? ⟨w.heap.size,4,none⟩=some (.slice g.oa g.outs.length g.oc)∧w.heap.size+1+1+1<w'.heap.size∧w.heap.size<w'.heap.size) V:=fun V k=>⟨by rw[cell_of_block (k.heap HCB.out rfl) 7];rfl,by rw[cell_of_block (k.heap HX.out rfl) 4];rfl,Nat.lt_of_lt_of_le hCl k.size,Nat.lt_of_lt_of_le hXl k.size⟩
      have hk0:KP w.heap.size W7 W7.drew:=KXg.of_new hdr;clear c6 c7 gI hXl hCl;refine aj (fun w':World=>w'.cell? ⟨w.heap.size+1+1+1,7,none⟩=some (.slice oa OL2.length oc)∧w'.cell? ⟨w.heap.size,4,none⟩=some (.slice g.oa g.outs.length g.oc)∧w.heap.size+1+1+1<w'.heap.size∧w.heap.size<w'.heap.size) [13] (by kernel_rfl) hS0 ?_;refine ae 0 hS0 ?_;refine ae 1 hS0 ?_;refine ae 2 hS0 ?_;refine ae 3 hS0 ?_;refine ae 4 hS0 ?_;refine ae 5 hS0 ?_;refine ae 6 hS0 ?_;refine re 7 11 (by kernel_rfl) ?_ ?_
      ·intro oi ho;simp only[sLq] at ho;subst ho;intro K hK;(try simp only[Act.put,sLs])
       go_simp;refine(hc0 W7.drew (hN.trans hdr) (hC.new hdr)).mono ?_;rintro e VA ⟨hs,kb⟩;obtain⟨x,kk,i,d,rfl,eC⟩:=jm hs;have kA:=hk0.trans kb;have HSA:=HS VA kA;refine hK _ _ (fun _=>HSA) ?_;clear hK K hs kb hS0;refine ae 8 HSA ?_;refine ae 9 HSA ?_;refine ae 10 HSA ?_;refine ag 11 ?_;intro K hK;refine kL ?_ ?_ ?_
       ·rfl
       ·rfl
       have ks:New VA (VA.alloc (.cells #[.int .u8 0,I 0,I 0] 85)):=(New.refl VA).alloc _;have hp:(VA.alloc (.cells #[.int .u8 0,I 0,I 0] 85)).heap[VA.heap.size]? =some (.cells #[.int .u8 0,I 0,I 0] 85 (0,0)):=heap_alloc_new VA _;have hPW:w.heap.size+1<VA.heap.size:=Nat.lt_of_lt_of_le (Array.getElem?_eq_some_iff.1 HB.out).1 kA.size;generalize(VA.alloc (.cells #[.int .u8 0,I 0,I 0] 85))=VB at ks hp hK ⊢;generalize VA.heap.size=P at hp hPW ⊢;have kB:=kA.trans (KXg.of_new ks);have HSB:=HS VB kB;have HRB:=Lib.hid (eC.to (yy _ _ ks));have HPB:=Lib.hid hp;refine hK _ _ (fun _=>HSB) ?_;clear hK K eC ks hp HSA kA;refine ae 12 HSB ?_;obtain⟨⟨p0,p1,p2⟩,⟨f0,f1,f2⟩,hPl⟩:=aJ HPB.out;refine ag 13 ?_;intro K hK;(try simp only[Act.put,sLs])
       go_simp;refine hK _ _ (fun hx=>by cases hx) ?_;clear hK K;refine av (by kernel_rfl) ?_;(try simp only[Act.put,sLs])
       (try simp only[Exit.then])
       go_wp2
       go_meet
       case rel=>
        refine⟨x,kk,i,d,P,rfl,rfl,Lib.hid ⟨HRB.out.to (tz _ _ _ _ _ _ HPB.out),iO HPB.out _ _ _,hPW,?_,?_,?_⟩⟩
        ·exact(cN _ _ _).heap (kB.heap HX.out rfl) (by omega)
        ·exact(cN _ _ _).heap (kB.heap HB.out rfl) (by omega)
        ·exact New.keeps (kB.new rfl hN) (cN _ _ _) (fun i hi=>by omega)
      ·intro oi ho;simp only[sLq] at ho;subst ho;intro K hK;refine kL ?_ ?_ ?_
       ·rfl
       ·rfl
       have ks:New W7.drew (W7.drew.alloc (.cells #[.int .u8 0,I 0,I 0] 85)):=(New.refl _).alloc _;have hp:(W7.drew.alloc (.cells #[.int .u8 0,I 0,I 0] 85)).heap[W7.drew.heap.size]? =some (.cells #[.int .u8 0,I 0,I 0] 85 (0,0)):=heap_alloc_new W7.drew _;have hPW:w.heap.size+1<W7.drew.heap.size:=Nat.lt_of_lt_of_le (Array.getElem?_eq_some_iff.1 HB.out).1 hk0.size;generalize(W7.drew.alloc (.cells #[.int .u8 0,I 0,I 0] 85))=VA at ks hp hK ⊢;generalize W7.drew.heap.size=P at hp hPW ⊢;have kA:=hk0.trans (KXg.of_new ks);have HSA:=HS VA kA;refine hK _ _ (fun _=>HSA) ?_;clear hK K hS0;refine ag 7 ?_;intro K hK;(try simp only[Act.put,sLs])
       go_simp;refine(hc0 VA (kA.new rfl hN) ((hC.new hdr).new ks)).mono ?_;rintro e VB ⟨hs,kb⟩;obtain⟨x,kk,i,d,rfl,eC⟩:=jm hs;have kB:=kA.trans kb;have HSB:=HS VB kB;have HRB:=Lib.hid eC;have HPB:=Lib.hid (kb.heap hp rfl);refine hK _ _ (fun _=>HSB) ?_;clear hK K hs kb eC ks hp HSA kA;refine ae 8 HSB ?_;refine ae 9 HSB ?_;refine ae 10 HSB ?_;refine ae 12 HSB ?_;obtain⟨⟨p0,p1,p2⟩,⟨f0,f1,f2⟩,hPl⟩:=aJ HPB.out;refine ag 13 ?_;intro K hK;(try simp only[Act.put,sLs])
       go_simp;refine hK _ _ (fun hx=>by cases hx) ?_;clear hK K;refine av (by kernel_rfl) ?_;(try simp only[Act.put,sLs])
       (try simp only[Exit.then])
       go_wp2
       go_meet
       case rel=>
        refine⟨x,kk,i,d,P,rfl,rfl,Lib.hid ⟨HRB.out.to (tz _ _ _ _ _ _ HPB.out),iO HPB.out _ _ _,hPW,?_,?_,?_⟩⟩
        ·exact(cN _ _ _).heap (kB.heap HX.out rfl) (by omega)
        ·exact(cN _ _ _).heap (kB.heap HB.out rfl) (by omega)
        ·exact New.keeps (kB.new rfl hN) (cN _ _ _) (fun i hi=>by omega)
     case rest=>
      obtain⟨x,kk,i,d,P,rfl,rfl,HZ⟩:=hcut;obtain⟨W8,hW⟩:∃W,W=wc:=⟨_,rfl⟩
      subst hW;obtain⟨eC,hp,hPW,hx0,hb0,hN0⟩:=HZ.out;have HP:=Lib.hid hp;replace HX:=Lib.hid hx0;replace HB:=Lib.hid hb0;replace hN:=hN0;clear hp hx0 hb0 hN0 HZ hC;cases s4 with
      |some sx=>
       obtain⟨i',x',d'⟩:=sx;obtain⟨e1,e2,e3,e4⟩:=eC;have hx:x≠0:=by rw[e1];exact n4 i' (x',d') rfl
       have dx:(x != 0)=true:=by simp[hx]
       have HR2:=Lib.hid (show((x,kk,i,d):Int×Int×Int×Int)=r by rw[e1,e2,e3,e4];exact HT.out);clear HT hx n4 e1 e2 e3 e4;go_wp2_with fail;obtain⟨⟨p0,p1,p2⟩,-,hPl⟩:=aJ HP.out;go_wp2_with fail;have hdr:New W8 W8.drew:=(New.refl W8).drew;have hS0:(fun w':World=>w'.cell? ⟨P,0,none⟩=some (.int .u8 kk)∧w'.cell? ⟨P,1,none⟩=some (I i)∧w'.cell? ⟨P,2,none⟩=some (I d)∧P<w'.heap.size) W8.drew:=⟨hdr.cell p0,hdr.cell p1,hdr.cell p2,hPl⟩
       obtain⟨⟨r0,r1,r2⟩,⟨f0,f1,f2⟩,hBB⟩:=aJ HB.out;clear p0 p1 p2 hPl;refine aj (fun w':World=>w'.cell? ⟨P,0,none⟩=some (.int .u8 kk)∧w'.cell? ⟨P,1,none⟩=some (I i)∧w'.cell? ⟨P,2,none⟩=some (I d)∧P<w'.heap.size) [3] (by kernel_rfl) hS0 ?_;refine ae 0 hS0 ?_;refine ae 1 hS0 ?_;refine ae 2 hS0 ?_;refine ag 3 ?_;intro K hK;(try simp only[Act.put,sLs])
       go_simp;refine hK _ _ (fun hx=>by cases hx) ?_;clear hK K;refine av (by kernel_rfl) ?_;(try simp only[Act.put,sLs])
       (try simp only[Exit.then])
       go_wp2_with fail;exact bodyPost_ret (v:= .tuple #[I x,.agg #[.int .u8 kk,I i,I d]]) (by simp[results,Tryz.results45,go_sem,r0,r1,r2,f0,f1,f2,hBB]) rfl ⟨by rw[<-HR2.out];rfl,((hN.drew.setCell (by simp) _).setCell (by simp) _).setCell (by simp) _⟩
      |none=>
       obtain⟨rfl,rfl,rfl,rfl,hk⟩:=eC;rw[<-Hok.out] at hk;obtain⟨OL4,hC,hi⟩:=hk;have Dj:=Lib.hid hi;have HT2:=Lib.hid (show fT s5 1 (0,0,0,0)=r from HT.out);replace HT:=HT2;clear HT2 hi Hok hc0 yy tz HP hPW n4;go_wp2_with fail;refine(HQ W8 ia ic IL3 oa oc OL4 hN hC Db Dj).mono ?_;rintro e W9 ⟨hs,kb⟩;replace HB:=Lib.hid (kb.heap HB.out rfl);replace hN:=kb.new rfl hN;obtain⟨x,kk,i,d,rfl,eC⟩:=jm hs;have HR2:=Lib.hid (show((x,kk,i,d):Int×Int×Int×Int)=r by
        rw[<-HT.out];cases s5 with
        |some sx=>obtain⟨i',x',d'⟩:=sx;obtain⟨e1,e2,e3,e4⟩:=eC;rw[e1,e2,e3,e4];rfl
        |none=>obtain⟨e1,e2,e3,e4,-⟩:=eC;rw[e1,e2,e3,e4];rfl)
       obtain⟨⟨r0,r1,r2⟩,⟨f0,f1,f2⟩,hBB⟩:=aJ HB.out;clear hs kb eC HT HQ n5;go_wp2_with fail;exact bodyPost_ret (v:= .tuple #[I x,.agg #[.int .u8 kk,I i,I d]]) (by simp[results,Tryz.results45,go_sem,r0,r1,r2,f0,f1,f2,hBB]) rfl ⟨by rw[<-HR2.out];rfl,((hN.setCell (by simp) _).setCell (by simp) _).setCell (by simp) _⟩
theorem sV (w:World) (g:Gr) (hg:GrAt w g) (hl:GLen g):
  Calls Tryz.prog 22 #[g.v] w fun en w'=>en= .returned (I (bz g).1)∧New w w':=by
 have HF:∀W,New w W->Calls Tryz.prog 45 #[g.v] W fun en w'=>en= .returned (kf (bz g))∧New W w':=fun W k=>pv W g (hg.new k) hl
 generalize bz g=fg at HF ⊢;clear hg hl;obtain⟨f0,f1,f2,f3⟩:=fg;simp only[Gr.v,Gr.cs,kf,lc] at HF ⊢;go_enter Tryz.func22,Tryz.ntmps22;go_wp2_with fail;refine(HF _ ((New.refl w).alloc _)).mono ?_;rintro e w1 ⟨rfl,k1⟩;go_wp2_with fail;go_ret
 exact⟨rfl,(((New.refl w).alloc _).trans k1).alloc _⟩
theorem BO {a:Option Addr} {n m c:Nat} (h:n=m):Ending.returned (.slice a n c)= .returned (.slice a m c):=by rw[h]
set_option maxRecDepth 512 in
theorem iH (w:World) (ao:Option Addr) (c:Nat) (xs:List Int) (hx:ar w ao (Is xs)) (hn:xs.length*8<=140737488355328):
  Calls Tryz.prog 54 #[.slice ao xs.length c] w fun e w'=>∃a' c',e= .returned (.slice a' xs.length c')∧bc w' w.heap.size a' c' xs∧New w w':=by
 obtain⟨i0,hi,hz0,hz1,hz2⟩:=info_parts Tryz.infoInt;have kO:w.ownsRow w.heap.size 3 1 (.slice none 0 0) 0 []:=World.ownsRow_nil _ _ _ _;go_enter Tryz.func54,Tryz.ntmps54;go_wp2_with (at_builtin;refine aR rfl _ _ 61 rfl w.heap.size 3 i0 (.int .i64 0) 1 8 Tryz.underlying61 hi hz0 hz1 hz2 rfl (by decide) none 0 0 [] rfl kO ao xs.length c (Is xs) rfl (by simp) hx (cG _ _) (by unfold maxLen;omega) (by omega) (Nat.le_refl _) ?_);intro a' c' w' aK hk hm _;go_wp2_with fail;go_ret
 refine⟨a',c',BO (by omega),?_,Keeps.mono hk (fun k _ hb=>by obtain⟨x,hx,_⟩:=hb;cases hx)⟩;simpa[bc] using aK
theorem eq {α:Type} {E:Nat->α->Int×Int} :∀(l:List α) (i:Nat),aD E i l=none->∀j (hj:j<l.length),(E (i+j) l[j]).1=0:=by
 intro l;induction l with
 |nil=>intro i _ j hj;simp at hj
 |cons x r ih=>
  intro i h j hj;unfold aD at h;split at h
  ·cases h
  ·rename_i h0;cases j with
   |zero=>simpa using h0
   |succ j=>
    have:=ih (i+1) h j (by simpa using hj);rw[show i+(j+1)=i+1+j by omega];simpa using this
theorem ik {r:Option (Nat×Int×Int)} {kd:Int} {rest:Int×Int×Int×Int} (hr:∀k ed,r=some (k,ed)->ed.1≠0) (h:(fT r kd rest).1=0):r=none∧rest.1=0:=by
 cases r with
 |some x=>obtain⟨i,e,d⟩:=x;exact absurd h (hr i (e,d) rfl)
 |none=>exact⟨rfl,h⟩
structure Sound (g:Gr):Prop where
 nm:aQ g.name=true
 na1:1<=g.acts.length
 na:g.acts.length<=32
 ne:g.edges.length<=96
 ni:g.ins.length<=16
 no:g.outs.length<=16
 act:∀i (hi:i<g.acts.length),cP (aw g i 0 0) g.acts[i].name=0∧(bs g.acts[i].tag g.acts[i].xs).1=0
 edge:∀i (hi:i<g.edges.length),dp g cr (aZ g i 0 g.edges[i].f g.edges[i].fp) g.edges[i].f g.edges[i].fp=0∧dp g nIn (bZ g i 0 g.edges[i].t g.edges[i].tp) g.edges[i].t g.edges[i].tp=0∧g.edges[i].xs.length<=256
 inp:∀i (hi:i<g.ins.length),cP (aw g g.acts.length i 0) g.ins[i].name=0∧dp g nIn (bZ g g.edges.length i g.ins[i].ac g.ins[i].po) g.ins[i].ac g.ins[i].po=0
 out:∀i (hi:i<g.outs.length),cP (aw g g.acts.length g.ins.length i) g.outs[i].name=0∧dp g cr (aZ g g.edges.length i g.outs[i].ac g.outs[i].po) g.outs[i].ac g.outs[i].po=0
 opn:∀i (hi:i<g.acts.length),e8 g i g.acts[i]=false
theorem sG {g:Gr} (h:(bz g).1=0):Sound g:=by
 rw[jt] at h;by_cases hh:(e7 g).1≠0
 ·rw[if_pos hh] at h;exact absurd h hh
 rw[if_neg hh] at h;have hd:aQ g.name=true∧1<=g.acts.length∧g.acts.length<=32∧g.edges.length<=96∧g.ins.length<=16∧g.outs.length<=16:=by
  unfold e7 iG at hh;by_cases h0:aQ g.name=false
  ·simp[h0] at hh
  by_cases h1:g.acts.length=0
  ·simp[h0,h1] at hh
  by_cases h2:32<g.acts.length
  ·simp[h0,h1,h2] at hh
  by_cases h3:96<g.edges.length
  ·simp[h0,h1,h2,h3] at hh
  by_cases h4:16<g.ins.length
  ·simp[h0,h1,h2,h3,h4] at hh
  by_cases h5:16<g.outs.length
  ·simp[h0,h1,h2,h3,h4,h5] at hh
  exact⟨by simpa using h0,by omega,by omega,by omega,by omega,by omega⟩
 unfold mj at h;obtain⟨r1,h⟩:=ik (fun k ed e=>(cj _ _ _ _ e).1) h;obtain⟨r2,h⟩:=ik (fun k ed e=>(cj _ _ _ _ e).1) h;obtain⟨r3,h⟩:=ik (fun k ed e=>(cj _ _ _ _ e).1) h;obtain⟨r4,h⟩:=ik (fun k ed e=>(cj _ _ _ _ e).1) h;obtain⟨r5,h⟩:=ik (fun k ed e=>(cj _ _ _ _ e).1) h;refine⟨hd.1,hd.2.1,hd.2.2.1,hd.2.2.2.1,hd.2.2.2.2.1,hd.2.2.2.2.2,fun i hi=>?_,fun i hi=>?_,fun i hi=>?_,fun i hi=>?_,fun i hi=>?_⟩
 ·have:=eq _ _ r1 i hi;rw[Nat.zero_add,qv] at this;by_cases e:cP (aw g i 0 0) g.acts[i].name=0
  ·rw[if_neg (fun h=>h e)] at this;exact⟨e,this⟩
  ·rw[if_pos e] at this;exact absurd this e
 ·have:=eq _ _ r2 i hi;rw[Nat.zero_add] at this;unfold dd at this;by_cases e:dp g cr (aZ g i 0 g.edges[i].f g.edges[i].fp) g.edges[i].f g.edges[i].fp=0
  ·rw[if_neg (fun h=>h e)] at this;by_cases e2:dp g nIn (bZ g i 0 g.edges[i].t g.edges[i].tp) g.edges[i].t g.edges[i].tp=0
   ·rw[if_neg (fun h=>h e2)] at this;by_cases e3:256<g.edges[i].xs.length
    ·rw[if_pos e3] at this;simp at this
    ·exact⟨e,e2,by omega⟩
   ·rw[if_pos e2] at this;exact absurd this e2
  ·rw[if_pos e] at this;exact absurd this e
 ·have:=eq _ _ r3 i hi;rw[Nat.zero_add] at this;unfold inE at this;by_cases e:cP (aw g g.acts.length i 0) g.ins[i].name=0
  ·rw[if_neg (fun h=>h e)] at this;exact⟨e,this⟩
  ·rw[if_pos e] at this;exact absurd this e
 ·have:=eq _ _ r4 i hi;rw[Nat.zero_add] at this;unfold fu at this;by_cases e:cP (aw g g.acts.length g.ins.length i) g.outs[i].name=0
  ·rw[if_neg (fun h=>h e)] at this;exact⟨e,this⟩
  ·rw[if_pos e] at this;exact absurd this e
 ·have:=eq _ _ r5 i hi;rw[Nat.zero_add] at this;unfold eH at this;cases e:e8 g i g.acts[i] with
  |false=>rfl
  |true=>rw[e] at this;simp at this
theorem fF {g:Gr} {n:GAct->Nat} {tk:Bool} {a p:Int} (h:dp g n tk a p=0):∃(x:Nat) (hx:x<g.acts.length),a=x∧0<=p∧p<n g.acts[x]∧tk=false:=by
 unfold dp at h;split at h
 ·rename_i ha;split at h
  ·rename_i hp;split at h
   ·cases h
   ·rename_i ht;exact⟨a.toNat,by omega,by omega,hp.1,hp.2,by simpa using ht⟩
  ·cases h
 ·cases h
theorem fD {tag:Int} {ps:List Int} (h:(bs tag ps).1=0):1<=tag∧tag<=11∧ps.length<=16:=by
 unfold bs at h;split at h
 ·rename_i ht;split at h
  ·rename_i hg;refine⟨ht.1,ht.2,?_⟩;rcases gp ht.1 ht.2 with rfl|rfl|rfl|rfl|rfl|rfl|rfl|rfl|rfl|rfl|rfl
   ·have:1<=ps.length∧ps.length<=16:=by simpa[bB] using hg
    omega
   ·obtain⟨n,rfl,_⟩:=dn (ps:=ps) (k:=64) (by simpa[bB] using hg);simp
   ·obtain⟨n,rfl,_⟩:=dn (ps:=ps) (k:=64) (by simpa[bB] using hg);simp
   ·obtain⟨n,m,rfl,_⟩:=gW (ps:=ps) (by simpa[bB] using hg);simp
   ·obtain⟨n,m,rfl,_⟩:=gW (ps:=ps) (by simpa[bB] using hg);simp
   ·obtain⟨n,rfl,_⟩:=dn (ps:=ps) (k:=16) (by simpa[bB] using hg);simp
   ·have:ps.length=0:=by simpa[bB] using hg
    omega
   ·have:ps.length=0:=by simpa[bB] using hg
    omega
   ·obtain⟨n,rfl,_⟩:=dn (ps:=ps) (k:=16) (by simpa[bB] using hg);simp
   ·have:ps.length=2:=by simpa[bB] using hg
    omega
   ·obtain⟨n,rfl,_⟩:=dn (ps:=ps) (k:=64) (by simpa[bB] using hg);simp
  ·simp at h
 ·simp at h
def fR (g:Gr) (a:Int):ByteArray:=(g.acts.getD a.toNat ⟨ByteArray.empty,0,none,0,[]⟩).name
theorem jb (g:Gr) {a:Nat} (ha:a<g.acts.length):fR g a=g.acts[a].name:=by
 unfold fR;simp[List.getD_eq_getElem?_getD,ha]
def eE (x:GAct):SIt:=⟨1,x.name,(lf x.tag).1,none,0,x.xs,⟨#[]⟩,0,0,⟨#[]⟩,0,0,0⟩
def cT (g:Gr) (x:GEdge):SIt:=⟨2,⟨#[]⟩,⟨#[]⟩,none,0,x.xs,fR g x.f,x.fp,0,fR g x.t,x.tp,0,0⟩
def i6 (g:Gr) (x:GPort):SIt:=⟨3,x.name,⟨#[]⟩,none,0,[],⟨#[]⟩,0,0,fR g x.ac,x.po,0,0⟩
def gA (g:Gr) (x:GPort):SIt:=⟨4,x.name,⟨#[]⟩,none,0,[],fR g x.ac,x.po,0,⟨#[]⟩,0,0,0⟩
def dZ (g:Gr):List SIt:=((g.acts.map eE++g.edges.map (cT g))++g.ins.map (i6 g))++g.outs.map (gA g)
def fs (g:Gr):Sk:=⟨g.name,none,0,dZ g⟩
theorem kj {l:List SIt} {D:List SIt} {α:Type} {m:List α} {f:α->SIt} {k:Nat} {x:SIt} (h:l.map SIt.bare=D++(m.take k).map f) (hk:k<m.length) (hx:x.bare=f m[k]):(l++[x]).map SIt.bare=D++(m.take (k+1)).map f:=by
 rw[List.map_append,h,List.take_succ_eq_append_getElem hk,List.map_append,List.append_assoc];simp[hx]
theorem lM {l:List SIt} {D:List SIt} {α:Type} {m:List α} {f:α->SIt} {k:Nat} (h:l.map SIt.bare=D++(m.take k).map f):l.length<=D.length+k:=by
 have:=congrArg List.length h;simp only[List.length_map,List.length_append,List.length_take] at this;omega
theorem an {w:World} {C:Nat} {a0 a1 a2 a3 a4:Value} (h:w.heap[C]? =some (.cells #[a0,a1,a2,a3,a4] 26 (0,0))):
  w.cell? ⟨C,0,none⟩=some a0∧w.cell? ⟨C,1,none⟩=some a1∧w.cell? ⟨C,2,none⟩=some a2∧w.cell? ⟨C,3,none⟩=some a3∧w.cell? ⟨C,4,none⟩=some a4∧C<w.heap.size:=by
 refine⟨?_,?_,?_,?_,?_,(Array.getElem?_eq_some_iff.1 h).1⟩;all_goals rw[cell_of_block h];rfl
theorem lN (w:World) (G:Nat) (g:Gr) (a:Nat) (p:Int) (hb:w.heap[G]? =some (.cells g.cs 26 (0,0))) (hg:GrAt w g) (ha:a<g.acts.length) (hla:g.acts.length<=9223372036854775807):
  Calls Tryz.prog 69 #[I a,I p,.pointer (some ⟨G,0,none⟩)] w fun e w'=>e= .returned (.agg #[.string g.acts[a].name,I p,I 0])∧New w w':=by
 obtain⟨-,c1,-,-,-,hGl⟩:=an hb;obtain⟨b,off,hab,q0,q1,q2⟩:=gP hg.sa ha;have haI:(a:Int)<(g.acts.length:Int):=by omega
 have hbw:b<w.heap.size:=World.block_lt_of_cell? w _ q0;rw[hab] at c1;clear hg hb hab;generalize g.acts[a]=x at q0 q1 q2;go_enter Tryz.func69,Tryz.ntmps69;go_wp2_with fail;exact bodyPost_ret (v:= .agg #[.string x.name,I p,I 0]) (by simp[results,Tryz.results69,go_sem]) rfl ⟨rfl,(New.refl w).alloc _⟩
end Go.Proofs.YtnedmonlofbahaaGreatDoor
