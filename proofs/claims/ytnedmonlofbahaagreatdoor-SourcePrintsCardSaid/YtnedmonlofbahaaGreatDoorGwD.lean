/-
  GrH, GrI, GrJ, GrK: what is wanted of them.
-/
import Derived.Test.YtnedmonlofbahaaGreatDoorGwC
import Derived.Maps.OwnOps
import Derived.Maps.OwnSet
import Derived.Maps.Views
namespace Go.Proofs.YtnedmonlofbahaaGreatDoor
open Go Go.RowKit Go.Joins
set_option linter.all false
def fX {α:Type} (E:Nat->α->Int×Int) (l:List α) (mk:Nat->Int×Int->Int×Int×Int×Int) (rest:Int×Int×Int×Int):Int×Int×Int×Int:=
 match aL E 0 l with
 |some (i,ed)=>mk i ed
 |none=>rest
theorem gK {α:Type} {E:Nat->α->Int×Int} {l:List α} {mk rest} {k:Nat} (hk:k<l.length) (hb:∀j (hj:j<l.length),j<k->(E j l[j]).1=0) (hh:(E k l[k]).1≠0):fX E l mk rest=mk k (E k l[k]):=by
 unfold fX;have h:=kp (E:=E) l 0 k hk (fun j hj hjk=>by simpa using hb j hj hjk) (by simpa using hh);simp only[Nat.zero_add] at h;rw[h]
theorem gJ {α:Type} {E:Nat->α->Int×Int} {l:List α} {mk rest} (hb:∀j (hj:j<l.length),j<l.length->(E j l[j]).1=0):fX E l mk rest=rest:=by
 unfold fX;rw[dB l 0 (fun j hj=>by simpa using hb j hj hj)]
theorem ss (g:Gr):aX g=
  if aM g.name=false then(82,0,0,0)
  else if g.acts.length=0 then(80,0,0,0)
  else if(gf g).1≠0 then gf g
  else fX (dS g) g.acts (fun i ed=>(ed.1,1,i,0)) (fX (cB g) g.edges (fun i ed=>(ed.1,2,i,ed.2)) (fX (inE g) g.ins (fun i ed=>(ed.1,3,i,ed.2)) (fX (dW g) g.outs (fun i ed=>(ed.1,4,i,ed.2))
   (fX (fun i x=>(if dP g i x then 87 else 0,0)) g.acts (fun i ed=>(ed.1,1,i,0)) (0,0,0,0))))):=by
 unfold aX gf;by_cases h0:aM g.name=false
 ·simp[h0]
 by_cases h1:g.acts.length=0
 ·simp[h0,h1]
 rw[if_neg h0,if_neg h1,if_neg h0,if_neg h1];by_cases h2:32<g.acts.length
 ·simp[h2]
 by_cases h3:96<g.edges.length
 ·simp[h2,h3]
 by_cases h4:16<g.ins.length
 ·simp[h2,h3,h4]
 by_cases h5:16<g.outs.length
 ·simp[h2,h3,h4,h5]
 simp only[h2,h3,h4,h5,if_false,ne_eq,not_true_eq_false];unfold fX;cases aL (dS g) 0 g.acts with
 |some r=>rfl
 |none=>
  cases aL (cB g) 0 g.edges with
  |some r=>rfl
  |none=>
   cases aL (inE g) 0 g.ins with
   |some r=>rfl
   |none=>
    cases aL (dW g) 0 g.outs with
    |some r=>rfl
    |none=>cases aL (fun i x=>(if dP g i x then 87 else 0,0)) 0 g.acts with
     |some r=>rfl
     |none=>rfl
theorem lU {p:Nat->Bool} {n:Nat} (h:∀j,j<n->p j=true):(List.range n).any (fun k=> !p k)=false:=by
 rw[List.any_eq_false];intro j hj;simp[h j (List.mem_range.1 hj)]
theorem lV {p:Nat->Bool} {n k:Nat} (hk:k<n) (h:p k=false):(List.range n).any (fun k=> !p k)=true:=
 List.any_eq_true.2 ⟨k,List.mem_range.2 hk,by simp[h]⟩
theorem gC (tag:Int) (ps:List Int):(aj tag ps).2.1.length<=16∧(aj tag ps).2.2.length<=16:=by
 unfold aj;split
 ·rename_i ht;split
  ·rename_i hg;rcases fE ht.1 ht.2 with rfl|rfl|rfl|rfl|rfl|rfl|rfl|rfl|rfl|rfl|rfl
   ·simp[dg]
   ·simp[dg]
   ·simp[dg]
   ·obtain⟨n,m,rfl,h1,h2,h3,h4,h5⟩:=fG (ps:=ps) (by simpa[aQ] using hg);simp[dg];omega
   ·obtain⟨n,m,rfl,h1,h2,h3,h4,h5⟩:=fG (ps:=ps) (by simpa[aQ] using hg);simp[dg];omega
   ·obtain⟨n,rfl,h1,h2⟩:=cL (ps:=ps) (k:=16) (by simpa[aQ] using hg);simp[dg];omega
   ·simp[dg]
   ·simp[dg]
   ·obtain⟨n,rfl,h1,h2⟩:=cL (ps:=ps) (k:=16) (by simpa[aQ] using hg);simp[dg];omega
   ·simp[dg]
   ·simp[dg]
  ·simp
 ·simp
theorem eH {w:World} {B:Nat} {a b c d:Value} (h:w.heap[B]? =some (.cells #[a,b,c,d] 122 (0,0))):
  (w.cell? ⟨B,0,none⟩=some a∧w.cell? ⟨B,1,none⟩=some b∧w.cell? ⟨B,2,none⟩=some c∧w.cell? ⟨B,3,none⟩=some d)∧
  (w.frozen? ⟨B,0,none⟩=false∧w.frozen? ⟨B,1,none⟩=false∧w.frozen? ⟨B,2,none⟩=false∧w.frozen? ⟨B,3,none⟩=false)∧B<w.heap.size:=by
 refine⟨⟨?_,?_,?_,?_⟩,⟨unfrozen_of_block h 0,unfrozen_of_block h 1,unfrozen_of_block h 2,unfrozen_of_block h 3⟩,(Array.getElem?_eq_some_iff.1 h).1⟩;all_goals rw[cell_of_block h];rfl
set_option maxRecDepth 100000 in
set_option maxHeartbeats 4000000 in
theorem rq (w:World) (g:Gr) (i:Nat) (hg:GrAt w g) (hl:GLen g) (hi:i<g.acts.length):
  Calls Tryz.prog 107 #[g.v,I i] w fun en w'=>en= .returned (.bool (dP g i g.acts[i]))∧New w w':=by
 have hla:=hl.a;have hle:=hl.e;have hli:=hl.i;have hlo:=hl.o;have HR:∀W (k:New w W),Calls Tryz.prog 138 #[g.v,I i] W fun en w'=>en= .returned (.tuple #[I (nIn g.acts[i]),I (bS g.acts[i])])∧New W w':=fun W k=>kX W g i (hg.new k) hl hi
 have HTI:∀W (k:New w W) (p:Nat),Calls Tryz.prog 137 #[g.v,I g.edges.length,I g.ins.length,I i,I p] W fun en w'=>en= .returned (.bool (bG g g.edges.length g.ins.length i p))∧New W w':=fun W k p=>jJ W g _ _ i p (hg.new k) hl (by omega) (by omega)
 have HTO:∀W (k:New w W) (p:Nat),Calls Tryz.prog 136 #[g.v,I g.edges.length,I g.outs.length,I i,I p] W fun en w'=>en= .returned (.bool (aU g g.edges.length g.outs.length i p))∧New W w':=fun W k p=>i8 W g _ _ i p (hg.new k) hl (by omega) (by omega)
 unfold dP;have hlI:nIn g.acts[i]<=9223372036854775807:=by have:=(gC g.acts[i].tag g.acts[i].xs).1;unfold nIn;omega
 have hlO:bS g.acts[i]<=9223372036854775807:=by have:=(gC g.acts[i].tag g.acts[i].xs).2;unfold bS;omega
 generalize nIn g.acts[i]=ni at HR hlI ⊢;generalize bS g.acts[i]=no at HR hlO ⊢;obtain⟨T1,hT1⟩:∃T1:Nat->Bool,(fun(p:Nat)=>bG g g.edges.length g.ins.length i (p:Int))=T1:=⟨_,rfl⟩
 obtain⟨T2,hT2⟩:∃T2:Nat->Bool,(fun(p:Nat)=>aU g g.edges.length g.outs.length i (p:Int))=T2:=⟨_,rfl⟩
 have e1:∀p:Nat,bG g g.edges.length g.ins.length i (p:Int)=T1 p:=fun p=>congrFun hT1 p
 have e2:∀p:Nat,aU g g.edges.length g.outs.length i (p:Int)=T2 p:=fun p=>congrFun hT2 p
 simp only[e1,e2] at HTI HTO ⊢;clear e1 e2 hT1 hT2 hl;obtain⟨A,hA⟩:∃A,((List.range ni).any (fun k=> !T1 k)||(List.range no).any (fun k=> !T2 k))=A:=⟨_,rfl⟩
 rw[hA];have HA:=Lib.hid hA;clear hA hg;obtain⟨gname,gaa,gac,gacts,gea,gec,gedges,gia,gic,gins,goa,goc,gouts⟩:=g;simp only[Gr.v,Gr.cs] at HR HTI HTO hi hla hle hli hlo ⊢;go_enter Tryz.func107,Tryz.ntmps107;go_wp2_with fail;have hN0:New w (w.alloc (.cells #[.string gname,.slice gaa gacts.length gac,.slice gea gedges.length gec,.slice gia gins.length gic,.slice goa gouts.length goc] 26)):=(New.refl w).alloc _;have hbx:(w.alloc (.cells #[.string gname,.slice gaa gacts.length gac,.slice gea gedges.length gec,.slice gia gins.length gic,.slice goa gouts.length goc] 26)).heap[w.heap.size]? =some (.cells #[.string gname,.slice gaa gacts.length gac,.slice gea gedges.length gec,.slice gia gins.length gic,.slice goa gouts.length goc] 26 (0,0)):=heap_alloc_new w _;have hs0:(w.alloc (.cells #[.string gname,.slice gaa gacts.length gac,.slice gea gedges.length gec,.slice gia gins.length gic,.slice goa gouts.length goc] 26)).heap.size=w.heap.size+1:=ay _ _;generalize(w.alloc (.cells #[.string gname,.slice gaa gacts.length gac,.slice gea gedges.length gec,.slice gia gins.length gic,.slice goa gouts.length goc] 26))=w0 at hN0 hbx hs0 ⊢;have x0:w0.cell? ⟨w.heap.size,0,none⟩=some (.string gname):=by rw[cell_of_block hbx 0];simp
 have x1:w0.cell? ⟨w.heap.size,1,none⟩=some (.slice gaa gacts.length gac):=by rw[cell_of_block hbx 1];simp
 have x2:w0.cell? ⟨w.heap.size,2,none⟩=some (.slice gea gedges.length gec):=by rw[cell_of_block hbx 2];simp
 have x3:w0.cell? ⟨w.heap.size,3,none⟩=some (.slice gia gins.length gic):=by rw[cell_of_block hbx 3];simp
 have x4:w0.cell? ⟨w.heap.size,4,none⟩=some (.slice goa gouts.length goc):=by rw[cell_of_block hbx 4];simp
 clear hbx;refine(HR w0 hN0).mono ?_;rintro e w1 ⟨rfl,k2⟩;replace x0:=k2.cell x0;replace x1:=k2.cell x1;replace x2:=k2.cell x2;replace x3:=k2.cell x3;replace x4:=k2.cell x4;replace hN0:=hN0.trans k2;clear k2 hs0 HR;go_wp2_with fail;go_loopw [7] (fun i wr=>∃k:Nat,k<=ni∧i= .int .i64 k∧Hid (∀j,j<k->T1 j=true)∧New w1 wr) (fun i _=>ni-(intOf i).toNat)
 case atStart=>exact⟨0,by omega,rfl,Lib.hid (fun j hj=>by omega),New.refl _⟩
 case round=>
  obtain⟨k,hk,rfl,HZ,hN⟩:=hrel;have x0r:=hN.cell x0;have x1r:=hN.cell x1;have x2r:=hN.cell x2;have x3r:=hN.cell x3;have x4r:=hN.cell x4;by_cases hk1:k<ni
  ·have hk3:(k:Int)<(ni:Int):=by omega
   have hk5:decide (k<ni)=true:=decide_eq_true hk1;have hc:=HTI wr (hN0.trans hN) k;cases ht:T1 k with
   |true=>
    rw[ht] at hc;have HF:Hid (∀j,j<k+1->T1 j=true):=Lib.hid (fun j hj=>by
     by_cases hjk:j=k
     ·rw[hjk];exact ht
     ·exact HZ.out j (by omega))
    clear ht HZ;go_wp2_with fail;refine hc.mono ?_;rintro e w3 ⟨rfl,k3⟩;go_wp2_with fail;go_roundw
    case rel=>exact⟨k+1,by omega,by go_num,HF,hN.trans k3⟩
    case measure=>simp[intOf];omega
   |false=>
    rw[ht] at hc;have HT:Hid (A=true):=Lib.hid (by rw[<-HA.out];simp only[Bool.or_eq_true];exact Or.inl (lV hk1 ht));clear ht HZ;go_wp2_with fail;refine hc.mono ?_;rintro e w3 ⟨rfl,k3⟩;go_wp2_with fail;go_ret
    exact⟨by rw[HT.out];rfl,(hN0.trans hN).trans k3⟩
  ·have hke:k=ni:=by omega
   have hd9:decide (k<ni)=false:=decide_eq_false hk1;rw[hke] at HZ;have HZ1:=HZ;clear HZ hke hk hk1;replace x0:=x0r;replace x1:=x1r;replace x2:=x2r;replace x3:=x3r;replace x4:=x4r;replace hN0:=hN0.trans hN;clear hN x0r x1r x2r x3r x4r;go_wp2_with fail;obtain⟨wo,rfl⟩:∃wo,wo=wr:=⟨_,rfl⟩
   go_loopw [8] (fun i wr=>∃k:Nat,k<=no∧i= .int .i64 k∧Hid (∀j,j<k->T2 j=true)∧New wo wr) (fun i _=>no-(intOf i).toNat)
   case atStart=>exact⟨0,by omega,rfl,Lib.hid (fun j hj=>by omega),New.refl _⟩
   case round=>
    obtain⟨k,hk,rfl,HZ,hN⟩:=hrel;have x0r:=hN.cell x0;have x1r:=hN.cell x1;have x2r:=hN.cell x2;have x3r:=hN.cell x3;have x4r:=hN.cell x4;by_cases hk1:k<no
    ·have hk3:(k:Int)<(no:Int):=by omega
     have hk5:decide (k<no)=true:=decide_eq_true hk1;have hc:=HTO wr (hN0.trans hN) k;cases ht:T2 k with
     |true=>
      rw[ht] at hc;have HF:Hid (∀j,j<k+1->T2 j=true):=Lib.hid (fun j hj=>by
       by_cases hjk:j=k
       ·rw[hjk];exact ht
       ·exact HZ.out j (by omega))
      clear ht HZ;go_wp2_with fail;refine hc.mono ?_;rintro e w3 ⟨rfl,k3⟩;go_wp2_with fail;go_roundw
      case rel=>exact⟨k+1,by omega,by go_num,HF,hN.trans k3⟩
      case measure=>simp[intOf];omega
     |false=>
      rw[ht] at hc;have HT:Hid (A=true):=Lib.hid (by rw[<-HA.out];simp only[Bool.or_eq_true];exact Or.inr (lV hk1 ht));clear ht HZ;go_wp2_with fail;refine hc.mono ?_;rintro e w3 ⟨rfl,k3⟩;go_wp2_with fail;go_ret
      exact⟨by rw[HT.out];rfl,(hN0.trans hN).trans k3⟩
    ·have hke:k=no:=by omega
     have hd9:decide (k<no)=false:=decide_eq_false hk1;rw[hke] at HZ;clear hke hk hk1;go_wp2_with fail;go_ret
     exact⟨by rw[<-HA.out,lU HZ1.out,lU HZ.out];rfl,hN0.trans hN⟩
set_option maxRecDepth 100000 in
set_option maxHeartbeats 8000000 in
theorem rl (w:World) (g:Gr) (hg:GrAt w g) (hl:GLen g):
  Calls Tryz.prog 64 #[g.v] w fun en w'=>en= .returned (qr (aX g))∧New w w':=by
 have hla:=hl.a;have hle:=hl.e;have hli:=hl.i;have hlo:=hl.o;have HM:∀W,Calls Tryz.prog 80 #[.string g.name] W fun e w'=>e= .returned (.bool (aM g.name))∧New W w':=fun W=>dK W _ hl.n
 have HY:∀W,Calls Tryz.prog 102 #[g.v] W fun e w'=>e= .returned (qr (gf g))∧New W w':=fun W=>rp W g hl
 have HA:∀W (k:Nat) (kk:New w W) (hk:k<g.acts.length),Calls Tryz.prog 103 #[g.v,I k] W fun e w'=>e= .returned (I (dS g k g.acts[k]).1)∧New W w':=fun W k kk hk=>oX W g k (hg.new kk) hl hk
 have HE:∀W (k:Nat) (kk:New w W) (hk:k<g.edges.length),Calls Tryz.prog 104 #[g.v,I k] W fun e w'=>e= .returned (.tuple #[I (cB g k g.edges[k]).1,I (cB g k g.edges[k]).2])∧New W w':=fun W k kk hk=>rk W g k (hg.new kk) hl hk
 have HI:∀W (k:Nat) (kk:New w W) (hk:k<g.ins.length),Calls Tryz.prog 105 #[g.v,I k] W fun e w'=>e= .returned (.tuple #[I (inE g k g.ins[k]).1,I (inE g k g.ins[k]).2])∧New W w':=fun W k kk hk=>uL W g k (hg.new kk) hl hk
 have HO:∀W (k:Nat) (kk:New w W) (hk:k<g.outs.length),Calls Tryz.prog 106 #[g.v,I k] W fun e w'=>e= .returned (.tuple #[I (dW g k g.outs[k]).1,I (dW g k g.outs[k]).2])∧New W w':=fun W k kk hk=>sY W g k (hg.new kk) hl hk
 have HP:∀W (k:Nat) (kk:New w W) (hk:k<g.acts.length),Calls Tryz.prog 107 #[g.v,I k] W fun e w'=>e= .returned (.bool (dP g k g.acts[k]))∧New W w':=fun W k kk hk=>rq W g k (hg.new kk) hl hk
 rw[ss];generalize aM g.name=nb at HM ⊢;generalize gf g=mg at HY ⊢;generalize dS g=EA at HA ⊢;generalize cB g=EE at HE ⊢;generalize inE g=EI at HI ⊢;generalize dW g=EO at HO ⊢;generalize dP g=EP at HP ⊢;clear hg hl;obtain⟨gname,gaa,gac,gacts,gea,gec,gedges,gia,gic,gins,goa,goc,gouts⟩:=g;simp only[Gr.v,Gr.cs] at hla hle hli hlo HM HY HA HE HI HO HP ⊢;obtain⟨m0,m1,m2,m3⟩:=mg;simp only[qr] at HY;cases nb with
 |false=>
  rw[if_pos rfl];go_enter Tryz.func64,Tryz.ntmps64;go_wp2_with fail;have hN0:New w (w.alloc (.cells #[.string gname,.slice gaa gacts.length gac,.slice gea gedges.length gec,.slice gia gins.length gic,.slice goa gouts.length goc] 26)):=(New.refl w).alloc _;have hbx:(w.alloc (.cells #[.string gname,.slice gaa gacts.length gac,.slice gea gedges.length gec,.slice gia gins.length gic,.slice goa gouts.length goc] 26)).heap[w.heap.size]? =some (.cells #[.string gname,.slice gaa gacts.length gac,.slice gea gedges.length gec,.slice gia gins.length gic,.slice goa gouts.length goc] 26 (0,0)):=heap_alloc_new w _;have hs0:(w.alloc (.cells #[.string gname,.slice gaa gacts.length gac,.slice gea gedges.length gec,.slice gia gins.length gic,.slice goa gouts.length goc] 26)).heap.size=w.heap.size+1:=ay _ _;generalize(w.alloc (.cells #[.string gname,.slice gaa gacts.length gac,.slice gea gedges.length gec,.slice gia gins.length gic,.slice goa gouts.length goc] 26))=w0 at hN0 hbx hs0 ⊢;have x0:w0.cell? ⟨w.heap.size,0,none⟩=some (.string gname):=by rw[cell_of_block hbx 0];simp
  have x1:w0.cell? ⟨w.heap.size,1,none⟩=some (.slice gaa gacts.length gac):=by rw[cell_of_block hbx 1];simp
  have x2:w0.cell? ⟨w.heap.size,2,none⟩=some (.slice gea gedges.length gec):=by rw[cell_of_block hbx 2];simp
  have x3:w0.cell? ⟨w.heap.size,3,none⟩=some (.slice gia gins.length gic):=by rw[cell_of_block hbx 3];simp
  have x4:w0.cell? ⟨w.heap.size,4,none⟩=some (.slice goa gouts.length goc):=by rw[cell_of_block hbx 4];simp
  clear hbx;have hN1:New w0 (w0.alloc (.cells #[I 0,.int .u8 0,I 0,I 0] 122)):=(New.refl w0).alloc _;have hbx:(w0.alloc (.cells #[I 0,.int .u8 0,I 0,I 0] 122)).heap[w0.heap.size]? =some (.cells #[I 0,.int .u8 0,I 0,I 0] 122 (0,0)):=heap_alloc_new w0 _;have hs1:(w0.alloc (.cells #[I 0,.int .u8 0,I 0,I 0] 122)).heap.size=w.heap.size+1+1:=by rw[ay,hs0]
  generalize(w0.alloc (.cells #[I 0,.int .u8 0,I 0,I 0] 122))=w1 at hN1 hbx hs1 ⊢;rw[hs0] at hbx;have HB:=Lib.hid hbx;replace x0:=hN1.cell x0;replace x1:=hN1.cell x1;replace x2:=hN1.cell x2;replace x3:=hN1.cell x3;replace x4:=hN1.cell x4;have k1:=hN0.trans hN1;clear hN0 hN1 hbx hs0;refine(HM w1).mono ?_;rintro e wa ⟨rfl,k2⟩;replace x0:=k2.cell x0;replace x1:=k2.cell x1;replace x2:=k2.cell x2;replace x3:=k2.cell x3;replace x4:=k2.cell x4;replace HB:=Lib.hid (Keeps.heap k2 HB.out (fun h=>h));replace k1:=k1.trans k2;clear k2;obtain⟨⟨r0,r1,r2,r3⟩,⟨f0,f1,f2,f3⟩,hBB⟩:=eH HB.out;go_wp2_with fail;exact bodyPost_ret (v:= .agg #[I 82,.int .u8 0,I 0,I 0]) (by simp[results,Tryz.results64,go_sem,r0,r1,r2,r3,f0,f1,f2,f3,hBB]) rfl ⟨rfl,((((k1).setCell (by simp) _).setCell (by simp) _).setCell (by simp) _).setCell (by simp) _⟩
 |true=>
  rw[if_neg (by simp)];by_cases h0:gacts.length=0
  ·rw[if_pos h0];have d0:((gacts.length:Int)==0)=true:=by simp[h0]
   have d0':decide ((gacts.length:Int)=0)=true:=by simp[h0]
   clear h0;go_enter Tryz.func64,Tryz.ntmps64;go_wp2_with fail;have hN0:New w (w.alloc (.cells #[.string gname,.slice gaa gacts.length gac,.slice gea gedges.length gec,.slice gia gins.length gic,.slice goa gouts.length goc] 26)):=(New.refl w).alloc _;have hbx:(w.alloc (.cells #[.string gname,.slice gaa gacts.length gac,.slice gea gedges.length gec,.slice gia gins.length gic,.slice goa gouts.length goc] 26)).heap[w.heap.size]? =some (.cells #[.string gname,.slice gaa gacts.length gac,.slice gea gedges.length gec,.slice gia gins.length gic,.slice goa gouts.length goc] 26 (0,0)):=heap_alloc_new w _;have hs0:(w.alloc (.cells #[.string gname,.slice gaa gacts.length gac,.slice gea gedges.length gec,.slice gia gins.length gic,.slice goa gouts.length goc] 26)).heap.size=w.heap.size+1:=ay _ _;generalize(w.alloc (.cells #[.string gname,.slice gaa gacts.length gac,.slice gea gedges.length gec,.slice gia gins.length gic,.slice goa gouts.length goc] 26))=w0 at hN0 hbx hs0 ⊢;have x0:w0.cell? ⟨w.heap.size,0,none⟩=some (.string gname):=by rw[cell_of_block hbx 0];simp
   have x1:w0.cell? ⟨w.heap.size,1,none⟩=some (.slice gaa gacts.length gac):=by rw[cell_of_block hbx 1];simp
   have x2:w0.cell? ⟨w.heap.size,2,none⟩=some (.slice gea gedges.length gec):=by rw[cell_of_block hbx 2];simp
   have x3:w0.cell? ⟨w.heap.size,3,none⟩=some (.slice gia gins.length gic):=by rw[cell_of_block hbx 3];simp
   have x4:w0.cell? ⟨w.heap.size,4,none⟩=some (.slice goa gouts.length goc):=by rw[cell_of_block hbx 4];simp
   clear hbx;have hN1:New w0 (w0.alloc (.cells #[I 0,.int .u8 0,I 0,I 0] 122)):=(New.refl w0).alloc _;have hbx:(w0.alloc (.cells #[I 0,.int .u8 0,I 0,I 0] 122)).heap[w0.heap.size]? =some (.cells #[I 0,.int .u8 0,I 0,I 0] 122 (0,0)):=heap_alloc_new w0 _;have hs1:(w0.alloc (.cells #[I 0,.int .u8 0,I 0,I 0] 122)).heap.size=w.heap.size+1+1:=by rw[ay,hs0]
   generalize(w0.alloc (.cells #[I 0,.int .u8 0,I 0,I 0] 122))=w1 at hN1 hbx hs1 ⊢;rw[hs0] at hbx;have HB:=Lib.hid hbx;replace x0:=hN1.cell x0;replace x1:=hN1.cell x1;replace x2:=hN1.cell x2;replace x3:=hN1.cell x3;replace x4:=hN1.cell x4;have k1:=hN0.trans hN1;clear hN0 hN1 hbx hs0;refine(HM w1).mono ?_;rintro e wa ⟨rfl,k2⟩;replace x0:=k2.cell x0;replace x1:=k2.cell x1;replace x2:=k2.cell x2;replace x3:=k2.cell x3;replace x4:=k2.cell x4;replace HB:=Lib.hid (Keeps.heap k2 HB.out (fun h=>h));replace k1:=k1.trans k2;clear k2;obtain⟨⟨r0,r1,r2,r3⟩,⟨f0,f1,f2,f3⟩,hBB⟩:=eH HB.out;go_wp2_with fail;exact bodyPost_ret (v:= .agg #[I 80,.int .u8 0,I 0,I 0]) (by simp[results,Tryz.results64,go_sem,r0,r1,r2,r3,f0,f1,f2,f3,hBB]) rfl ⟨rfl,((((k1).setCell (by simp) _).setCell (by simp) _).setCell (by simp) _).setCell (by simp) _⟩
  ·rw[if_neg h0];have d0:((gacts.length:Int)==0)=false:=by
    rw[beq_eq_false_iff_ne];omega
   have d0':decide ((gacts.length:Int)=0)=false:=decide_eq_false (by omega);have d0'':decide (gacts.length=0)=false:=decide_eq_false (by omega);clear h0;by_cases hm:m0≠0
   ·rw[if_pos hm];have d1:(m0 != 0)=true:=by simpa using hm
    clear hm;go_enter Tryz.func64,Tryz.ntmps64;go_wp2_with fail;have hN0:New w (w.alloc (.cells #[.string gname,.slice gaa gacts.length gac,.slice gea gedges.length gec,.slice gia gins.length gic,.slice goa gouts.length goc] 26)):=(New.refl w).alloc _;have hbx:(w.alloc (.cells #[.string gname,.slice gaa gacts.length gac,.slice gea gedges.length gec,.slice gia gins.length gic,.slice goa gouts.length goc] 26)).heap[w.heap.size]? =some (.cells #[.string gname,.slice gaa gacts.length gac,.slice gea gedges.length gec,.slice gia gins.length gic,.slice goa gouts.length goc] 26 (0,0)):=heap_alloc_new w _;have hs0:(w.alloc (.cells #[.string gname,.slice gaa gacts.length gac,.slice gea gedges.length gec,.slice gia gins.length gic,.slice goa gouts.length goc] 26)).heap.size=w.heap.size+1:=ay _ _;generalize(w.alloc (.cells #[.string gname,.slice gaa gacts.length gac,.slice gea gedges.length gec,.slice gia gins.length gic,.slice goa gouts.length goc] 26))=w0 at hN0 hbx hs0 ⊢;have x0:w0.cell? ⟨w.heap.size,0,none⟩=some (.string gname):=by rw[cell_of_block hbx 0];simp
    have x1:w0.cell? ⟨w.heap.size,1,none⟩=some (.slice gaa gacts.length gac):=by rw[cell_of_block hbx 1];simp
    have x2:w0.cell? ⟨w.heap.size,2,none⟩=some (.slice gea gedges.length gec):=by rw[cell_of_block hbx 2];simp
    have x3:w0.cell? ⟨w.heap.size,3,none⟩=some (.slice gia gins.length gic):=by rw[cell_of_block hbx 3];simp
    have x4:w0.cell? ⟨w.heap.size,4,none⟩=some (.slice goa gouts.length goc):=by rw[cell_of_block hbx 4];simp
    clear hbx;have hN1:New w0 (w0.alloc (.cells #[I 0,.int .u8 0,I 0,I 0] 122)):=(New.refl w0).alloc _;have hbx:(w0.alloc (.cells #[I 0,.int .u8 0,I 0,I 0] 122)).heap[w0.heap.size]? =some (.cells #[I 0,.int .u8 0,I 0,I 0] 122 (0,0)):=heap_alloc_new w0 _;have hs1:(w0.alloc (.cells #[I 0,.int .u8 0,I 0,I 0] 122)).heap.size=w.heap.size+1+1:=by rw[ay,hs0]
    generalize(w0.alloc (.cells #[I 0,.int .u8 0,I 0,I 0] 122))=w1 at hN1 hbx hs1 ⊢;rw[hs0] at hbx;have HB:=Lib.hid hbx;replace x0:=hN1.cell x0;replace x1:=hN1.cell x1;replace x2:=hN1.cell x2;replace x3:=hN1.cell x3;replace x4:=hN1.cell x4;have k1:=hN0.trans hN1;clear hN0 hN1 hbx hs0;refine(HM w1).mono ?_;rintro e wa ⟨rfl,k2⟩;replace x0:=k2.cell x0;replace x1:=k2.cell x1;replace x2:=k2.cell x2;replace x3:=k2.cell x3;replace x4:=k2.cell x4;replace HB:=Lib.hid (Keeps.heap k2 HB.out (fun h=>h));replace k1:=k1.trans k2;clear k2;go_wp2_with fail;refine(HY wa).mono ?_;rintro e wb ⟨rfl,k2⟩;replace x0:=k2.cell x0;replace x1:=k2.cell x1;replace x2:=k2.cell x2;replace x3:=k2.cell x3;replace x4:=k2.cell x4;replace HB:=Lib.hid (Keeps.heap k2 HB.out (fun h=>h));replace k1:=k1.trans k2;clear k2;obtain⟨⟨r0,r1,r2,r3⟩,⟨f0,f1,f2,f3⟩,hBB⟩:=eH HB.out;go_wp2_with fail;exact bodyPost_ret (v:= .agg #[I m0,.int .u8 m1,I m2,I m3]) (by simp[results,Tryz.results64,go_sem,r0,r1,r2,r3,f0,f1,f2,f3,hBB]) rfl ⟨rfl,(((((k1).setCell (by simp) _).setCell (by simp) _).setCell (by simp) _).setCell (by simp) _).alloc _⟩
   ·rw[if_neg hm];have d1:(m0 != 0)=false:=by simpa using hm
    clear hm;obtain⟨S5,h5⟩:∃S5,fX (fun i x=>(if EP i x then(87:Int) else 0,(0:Int))) gacts (fun i ed=>(ed.1,1,i,0)) (0,0,0,0)=S5:=⟨_,rfl⟩
    rw[h5];obtain⟨S4,h4⟩:∃S4,fX EO gouts (fun i ed=>(ed.1,4,i,ed.2)) S5=S4:=⟨_,rfl⟩
    rw[h4];obtain⟨S3,h3⟩:∃S3,fX EI gins (fun i ed=>(ed.1,3,i,ed.2)) S4=S3:=⟨_,rfl⟩
    rw[h3];obtain⟨S2,h2⟩:∃S2,fX EE gedges (fun i ed=>(ed.1,2,i,ed.2)) S3=S2:=⟨_,rfl⟩
    rw[h2];obtain⟨S1,h1⟩:∃S1,fX EA gacts (fun i ed=>(ed.1,1,i,0)) S2=S1:=⟨_,rfl⟩
    rw[h1];have H1:=Lib.hid h1;have H2:=Lib.hid h2;have H3:=Lib.hid h3;have H4:=Lib.hid h4;have H5:=Lib.hid h5;have HQ1:Hid (S1=S1):=Lib.hid rfl;clear h1 h2 h3 h4 h5;go_enter Tryz.func64,Tryz.ntmps64;go_wp2_with fail;have hN0:New w (w.alloc (.cells #[.string gname,.slice gaa gacts.length gac,.slice gea gedges.length gec,.slice gia gins.length gic,.slice goa gouts.length goc] 26)):=(New.refl w).alloc _;have hbx:(w.alloc (.cells #[.string gname,.slice gaa gacts.length gac,.slice gea gedges.length gec,.slice gia gins.length gic,.slice goa gouts.length goc] 26)).heap[w.heap.size]? =some (.cells #[.string gname,.slice gaa gacts.length gac,.slice gea gedges.length gec,.slice gia gins.length gic,.slice goa gouts.length goc] 26 (0,0)):=heap_alloc_new w _;have hs0:(w.alloc (.cells #[.string gname,.slice gaa gacts.length gac,.slice gea gedges.length gec,.slice gia gins.length gic,.slice goa gouts.length goc] 26)).heap.size=w.heap.size+1:=ay _ _;generalize(w.alloc (.cells #[.string gname,.slice gaa gacts.length gac,.slice gea gedges.length gec,.slice gia gins.length gic,.slice goa gouts.length goc] 26))=w0 at hN0 hbx hs0 ⊢;have x0:w0.cell? ⟨w.heap.size,0,none⟩=some (.string gname):=by rw[cell_of_block hbx 0];simp
    have x1:w0.cell? ⟨w.heap.size,1,none⟩=some (.slice gaa gacts.length gac):=by rw[cell_of_block hbx 1];simp
    have x2:w0.cell? ⟨w.heap.size,2,none⟩=some (.slice gea gedges.length gec):=by rw[cell_of_block hbx 2];simp
    have x3:w0.cell? ⟨w.heap.size,3,none⟩=some (.slice gia gins.length gic):=by rw[cell_of_block hbx 3];simp
    have x4:w0.cell? ⟨w.heap.size,4,none⟩=some (.slice goa gouts.length goc):=by rw[cell_of_block hbx 4];simp
    clear hbx;have hN1:New w0 (w0.alloc (.cells #[I 0,.int .u8 0,I 0,I 0] 122)):=(New.refl w0).alloc _;have hbx:(w0.alloc (.cells #[I 0,.int .u8 0,I 0,I 0] 122)).heap[w0.heap.size]? =some (.cells #[I 0,.int .u8 0,I 0,I 0] 122 (0,0)):=heap_alloc_new w0 _;have hs1:(w0.alloc (.cells #[I 0,.int .u8 0,I 0,I 0] 122)).heap.size=w.heap.size+1+1:=by rw[ay,hs0]
    generalize(w0.alloc (.cells #[I 0,.int .u8 0,I 0,I 0] 122))=w1 at hN1 hbx hs1 ⊢;rw[hs0] at hbx;have HB:=Lib.hid hbx;replace x0:=hN1.cell x0;replace x1:=hN1.cell x1;replace x2:=hN1.cell x2;replace x3:=hN1.cell x3;replace x4:=hN1.cell x4;have k1:=hN0.trans hN1;clear hN0 hN1 hbx hs0;refine(HM w1).mono ?_;rintro e wa ⟨rfl,k2⟩;replace x0:=k2.cell x0;replace x1:=k2.cell x1;replace x2:=k2.cell x2;replace x3:=k2.cell x3;replace x4:=k2.cell x4;replace HB:=Lib.hid (Keeps.heap k2 HB.out (fun h=>h));replace k1:=k1.trans k2;clear k2;go_wp2_with fail;refine(HY wa).mono ?_;rintro e wb ⟨rfl,k2⟩;replace x0:=k2.cell x0;replace x1:=k2.cell x1;replace x2:=k2.cell x2;replace x3:=k2.cell x3;replace x4:=k2.cell x4;replace HB:=Lib.hid (Keeps.heap k2 HB.out (fun h=>h));replace k1:=k1.trans k2;clear k2;go_wp2_with fail;have hN1:New wb (wb.alloc (.cells #[I m0,.int .u8 m1,I m2,I m3] 122)):=(New.refl wb).alloc _;generalize(wb.alloc (.cells #[I m0,.int .u8 m1,I m2,I m3] 122))=wc at hN1 ⊢;generalize wb.heap.size=BL;replace x0:=hN1.cell x0;replace x1:=hN1.cell x1;replace x2:=hN1.cell x2;replace x3:=hN1.cell x3;replace x4:=hN1.cell x4;replace HB:=Lib.hid (Keeps.heap hN1 HB.out (fun h=>h));replace k1:=k1.trans hN1;clear hN1;obtain⟨v0,hv0⟩:∃v0,v0=wc:=⟨_,rfl⟩
    subst hv0;go_loopw [4] (fun i wr=>∃k:Nat,k<=gacts.length∧i= .int .i64 k∧Hid (∀j (hj:j<gacts.length),j<k->(EA j gacts[j]).1=0)∧New v0 wr) (fun i _=>gacts.length-(intOf i).toNat)
    case atStart=>exact⟨0,by omega,rfl,Lib.hid (fun j _ hj=>by omega),New.refl _⟩
    case round=>
     obtain⟨k,hk,rfl,HZ,hN⟩:=hrel;have x0r:=hN.cell x0;have x1r:=hN.cell x1;have x2r:=hN.cell x2;have x3r:=hN.cell x3;have x4r:=hN.cell x4;have HBr:=Lib.hid (Keeps.heap hN HB.out (fun h=>h));by_cases hk1:k<gacts.length
     ·have hk3:(k:Int)<(gacts.length:Int):=by omega
      have hk5:decide (k<gacts.length)=true:=decide_eq_true hk1;have hc:=HA wr k (k1.trans hN) hk1;obtain⟨⟨ec,ed⟩,hEk⟩:∃p,EA k gacts[k]=p:=⟨_,rfl⟩
      rw[hEk] at hc;simp only at hc;by_cases he:ec=0
      ·have HF:Hid (∀j (hj:j<gacts.length),j<k+1->(EA j gacts[j]).1=0):=Lib.hid (fun j hj hj1=>by
        by_cases hjk:j=k
        ·subst hjk;rw[hEk];exact he
        ·exact HZ.out j hj (by omega))
       have d1:(ec != 0)=false:=by simp[he]
       clear hEk HZ he;go_wp2_with fail;refine hc.mono ?_;rintro e w3 ⟨rfl,k3⟩;go_wp2_with fail;go_roundw
       case rel=>exact⟨k+1,by omega,by go_num,HF,hN.trans k3⟩
       case measure=>simp[intOf];omega
      ·have HV:Hid (S1=(ec,1,(k:Int),0)):=Lib.hid (by
        rw[<-H1.out,gK hk1 HZ.out (by rw[hEk];exact he),hEk])
       have d1:(ec != 0)=true:=by simp[he]
       clear hEk HZ he;go_wp2_with fail;refine hc.mono ?_;rintro e w3 ⟨rfl,k3⟩;replace HBr:=Lib.hid (Keeps.heap k3 HBr.out (fun h=>h));replace k3:=(k1.trans hN).trans k3;obtain⟨⟨r0,r1,r2,r3⟩,⟨f0,f1,f2,f3⟩,hBB⟩:=eH HBr.out;go_wp2_with fail;exact bodyPost_ret (v:= .agg #[I ec,.int .u8 1,I k,I 0]) (by simp[results,Tryz.results64,go_sem,r0,r1,r2,r3,f0,f1,f2,f3,hBB]) rfl ⟨by rw[HV.out];rfl,((((k3).setCell (by simp) _).setCell (by simp) _).setCell (by simp) _).setCell (by simp) _⟩
     ·have hke:k=gacts.length:=by omega
      have hd9:decide (k<gacts.length)=false:=decide_eq_false hk1;rw[hke] at HZ;have HQ2:Hid (S1=S2):=Lib.hid (by rw[<-H1.out];exact gJ HZ.out);clear HZ hke hk hk1;replace x0:=x0r;replace x1:=x1r;replace x2:=x2r;replace x3:=x3r;replace x4:=x4r;replace HB:=HBr;replace k1:=k1.trans hN;clear hN HBr x0r x1r x2r x3r x4r;go_wp2_with fail;obtain⟨v1,hv⟩:∃v,v=wr:=⟨_,rfl⟩
      subst hv;go_loopw [6] (fun i wr=>∃k:Nat,k<=gedges.length∧i= .int .i64 k∧Hid (∀j (hj:j<gedges.length),j<k->(EE j gedges[j]).1=0)∧New v1 wr) (fun i _=>gedges.length-(intOf i).toNat)
      case atStart=>exact⟨0,by omega,rfl,Lib.hid (fun j _ hj=>by omega),New.refl _⟩
      case round=>
       obtain⟨k,hk,rfl,HZ,hN⟩:=hrel;have x0r:=hN.cell x0;have x1r:=hN.cell x1;have x2r:=hN.cell x2;have x3r:=hN.cell x3;have x4r:=hN.cell x4;have HBr:=Lib.hid (Keeps.heap hN HB.out (fun h=>h));by_cases hk1:k<gedges.length
       ·have hk3:(k:Int)<(gedges.length:Int):=by omega
        have hk5:decide (k<gedges.length)=true:=decide_eq_true hk1;have hc:=HE wr k (k1.trans hN) hk1;obtain⟨⟨ec,ed⟩,hEk⟩:∃p,EE k gedges[k]=p:=⟨_,rfl⟩
        rw[hEk] at hc;simp only at hc;by_cases he:ec=0
        ·have HF:Hid (∀j (hj:j<gedges.length),j<k+1->(EE j gedges[j]).1=0):=Lib.hid (fun j hj hj1=>by
          by_cases hjk:j=k
          ·subst hjk;rw[hEk];exact he
          ·exact HZ.out j hj (by omega))
         have d1:(ec != 0)=false:=by simp[he]
         clear hEk HZ he;go_wp2_with fail;refine hc.mono ?_;rintro e w3 ⟨rfl,k3⟩;go_wp2_with fail;go_roundw
         case rel=>exact⟨k+1,by omega,by go_num,HF,hN.trans k3⟩
         case measure=>simp[intOf];omega
        ·have HV:Hid (S1=(ec,2,(k:Int),ed)):=Lib.hid (by
          rw[HQ2.out,<-H2.out,gK hk1 HZ.out (by rw[hEk];exact he),hEk])
         have d1:(ec != 0)=true:=by simp[he]
         clear hEk HZ he;go_wp2_with fail;refine hc.mono ?_;rintro e w3 ⟨rfl,k3⟩;replace HBr:=Lib.hid (Keeps.heap k3 HBr.out (fun h=>h));replace k3:=(k1.trans hN).trans k3;obtain⟨⟨r0,r1,r2,r3⟩,⟨f0,f1,f2,f3⟩,hBB⟩:=eH HBr.out;go_wp2_with fail;exact bodyPost_ret (v:= .agg #[I ec,.int .u8 2,I k,I ed]) (by simp[results,Tryz.results64,go_sem,r0,r1,r2,r3,f0,f1,f2,f3,hBB]) rfl ⟨by rw[HV.out];rfl,((((k3).setCell (by simp) _).setCell (by simp) _).setCell (by simp) _).setCell (by simp) _⟩
       ·have hke:k=gedges.length:=by omega
        have hd9:decide (k<gedges.length)=false:=decide_eq_false hk1;rw[hke] at HZ;have HQ3:Hid (S1=S3):=Lib.hid (by rw[HQ2.out,<-H2.out];exact gJ HZ.out);clear HZ hke hk hk1;replace x0:=x0r;replace x1:=x1r;replace x2:=x2r;replace x3:=x3r;replace x4:=x4r;replace HB:=HBr;replace k1:=k1.trans hN;clear hN HBr x0r x1r x2r x3r x4r;go_wp2_with fail;obtain⟨v2,hv⟩:∃v,v=wr:=⟨_,rfl⟩
        subst hv;go_loopw [9] (fun i wr=>∃k:Nat,k<=gins.length∧i= .int .i64 k∧Hid (∀j (hj:j<gins.length),j<k->(EI j gins[j]).1=0)∧New v2 wr) (fun i _=>gins.length-(intOf i).toNat)
        case atStart=>exact⟨0,by omega,rfl,Lib.hid (fun j _ hj=>by omega),New.refl _⟩
        case round=>
         obtain⟨k,hk,rfl,HZ,hN⟩:=hrel;have x0r:=hN.cell x0;have x1r:=hN.cell x1;have x2r:=hN.cell x2;have x3r:=hN.cell x3;have x4r:=hN.cell x4;have HBr:=Lib.hid (Keeps.heap hN HB.out (fun h=>h));by_cases hk1:k<gins.length
         ·have hk3:(k:Int)<(gins.length:Int):=by omega
          have hk5:decide (k<gins.length)=true:=decide_eq_true hk1;have hc:=HI wr k (k1.trans hN) hk1;obtain⟨⟨ec,ed⟩,hEk⟩:∃p,EI k gins[k]=p:=⟨_,rfl⟩
          rw[hEk] at hc;simp only at hc;by_cases he:ec=0
          ·have HF:Hid (∀j (hj:j<gins.length),j<k+1->(EI j gins[j]).1=0):=Lib.hid (fun j hj hj1=>by
            by_cases hjk:j=k
            ·subst hjk;rw[hEk];exact he
            ·exact HZ.out j hj (by omega))
           have d1:(ec != 0)=false:=by simp[he]
           clear hEk HZ he;go_wp2_with fail;refine hc.mono ?_;rintro e w3 ⟨rfl,k3⟩;go_wp2_with fail;go_roundw
           case rel=>exact⟨k+1,by omega,by go_num,HF,hN.trans k3⟩
           case measure=>simp[intOf];omega
          ·have HV:Hid (S1=(ec,3,(k:Int),ed)):=Lib.hid (by
            rw[HQ3.out,<-H3.out,gK hk1 HZ.out (by rw[hEk];exact he),hEk])
           have d1:(ec != 0)=true:=by simp[he]
           clear hEk HZ he;go_wp2_with fail;refine hc.mono ?_;rintro e w3 ⟨rfl,k3⟩;replace HBr:=Lib.hid (Keeps.heap k3 HBr.out (fun h=>h));replace k3:=(k1.trans hN).trans k3;obtain⟨⟨r0,r1,r2,r3⟩,⟨f0,f1,f2,f3⟩,hBB⟩:=eH HBr.out;go_wp2_with fail;exact bodyPost_ret (v:= .agg #[I ec,.int .u8 3,I k,I ed]) (by simp[results,Tryz.results64,go_sem,r0,r1,r2,r3,f0,f1,f2,f3,hBB]) rfl ⟨by rw[HV.out];rfl,((((k3).setCell (by simp) _).setCell (by simp) _).setCell (by simp) _).setCell (by simp) _⟩
         ·have hke:k=gins.length:=by omega
          have hd9:decide (k<gins.length)=false:=decide_eq_false hk1;rw[hke] at HZ;have HQ4:Hid (S1=S4):=Lib.hid (by rw[HQ3.out,<-H3.out];exact gJ HZ.out);clear HZ hke hk hk1;replace x0:=x0r;replace x1:=x1r;replace x2:=x2r;replace x3:=x3r;replace x4:=x4r;replace HB:=HBr;replace k1:=k1.trans hN;clear hN HBr x0r x1r x2r x3r x4r;go_wp2_with fail;obtain⟨v3,hv⟩:∃v,v=wr:=⟨_,rfl⟩
          subst hv;go_loopw [12] (fun i wr=>∃k:Nat,k<=gouts.length∧i= .int .i64 k∧Hid (∀j (hj:j<gouts.length),j<k->(EO j gouts[j]).1=0)∧New v3 wr) (fun i _=>gouts.length-(intOf i).toNat)
          case atStart=>exact⟨0,by omega,rfl,Lib.hid (fun j _ hj=>by omega),New.refl _⟩
          case round=>
           obtain⟨k,hk,rfl,HZ,hN⟩:=hrel;have x0r:=hN.cell x0;have x1r:=hN.cell x1;have x2r:=hN.cell x2;have x3r:=hN.cell x3;have x4r:=hN.cell x4;have HBr:=Lib.hid (Keeps.heap hN HB.out (fun h=>h));by_cases hk1:k<gouts.length
           ·have hk3:(k:Int)<(gouts.length:Int):=by omega
            have hk5:decide (k<gouts.length)=true:=decide_eq_true hk1;have hc:=HO wr k (k1.trans hN) hk1;obtain⟨⟨ec,ed⟩,hEk⟩:∃p,EO k gouts[k]=p:=⟨_,rfl⟩
            rw[hEk] at hc;simp only at hc;by_cases he:ec=0
            ·have HF:Hid (∀j (hj:j<gouts.length),j<k+1->(EO j gouts[j]).1=0):=Lib.hid (fun j hj hj1=>by
              by_cases hjk:j=k
              ·subst hjk;rw[hEk];exact he
              ·exact HZ.out j hj (by omega))
             have d1:(ec != 0)=false:=by simp[he]
             clear hEk HZ he;go_wp2_with fail;refine hc.mono ?_;rintro e w3 ⟨rfl,k3⟩;go_wp2_with fail;go_roundw
             case rel=>exact⟨k+1,by omega,by go_num,HF,hN.trans k3⟩
             case measure=>simp[intOf];omega
            ·have HV:Hid (S1=(ec,4,(k:Int),ed)):=Lib.hid (by
              rw[HQ4.out,<-H4.out,gK hk1 HZ.out (by rw[hEk];exact he),hEk])
             have d1:(ec != 0)=true:=by simp[he]
             clear hEk HZ he;go_wp2_with fail;refine hc.mono ?_;rintro e w3 ⟨rfl,k3⟩;replace HBr:=Lib.hid (Keeps.heap k3 HBr.out (fun h=>h));replace k3:=(k1.trans hN).trans k3;obtain⟨⟨r0,r1,r2,r3⟩,⟨f0,f1,f2,f3⟩,hBB⟩:=eH HBr.out;go_wp2_with fail;exact bodyPost_ret (v:= .agg #[I ec,.int .u8 4,I k,I ed]) (by simp[results,Tryz.results64,go_sem,r0,r1,r2,r3,f0,f1,f2,f3,hBB]) rfl ⟨by rw[HV.out];rfl,((((k3).setCell (by simp) _).setCell (by simp) _).setCell (by simp) _).setCell (by simp) _⟩
           ·have hke:k=gouts.length:=by omega
            have hd9:decide (k<gouts.length)=false:=decide_eq_false hk1;rw[hke] at HZ;have HQ5:Hid (S1=S5):=Lib.hid (by rw[HQ4.out,<-H4.out];exact gJ HZ.out);clear HZ hke hk hk1;replace x0:=x0r;replace x1:=x1r;replace x2:=x2r;replace x3:=x3r;replace x4:=x4r;replace HB:=HBr;replace k1:=k1.trans hN;clear hN HBr x0r x1r x2r x3r x4r;go_wp2_with fail;obtain⟨v4,hv⟩:∃v,v=wr:=⟨_,rfl⟩
            subst hv;go_loopw [15] (fun i wr=>∃k:Nat,k<=gacts.length∧i= .int .i64 k∧Hid (∀j (hj:j<gacts.length),j<k->((fun i x=>(if EP i x then(87:Int) else 0,(0:Int))) j gacts[j]).1=0)∧New v4 wr) (fun i _=>gacts.length-(intOf i).toNat)
            case atStart=>exact⟨0,by omega,rfl,Lib.hid (fun j _ hj=>by omega),New.refl _⟩
            case round=>
             obtain⟨k,hk,rfl,HZ,hN⟩:=hrel;have x0r:=hN.cell x0;have x1r:=hN.cell x1;have x2r:=hN.cell x2;have x3r:=hN.cell x3;have x4r:=hN.cell x4;have HBr:=Lib.hid (Keeps.heap hN HB.out (fun h=>h));by_cases hk1:k<gacts.length
             ·have hk3:(k:Int)<(gacts.length:Int):=by omega
              have hk5:decide (k<gacts.length)=true:=decide_eq_true hk1;have hc:=HP wr k (k1.trans hN) hk1;cases hEk:EP k gacts[k] with
              |false=>
               rw[hEk] at hc;have HF:Hid (∀j (hj:j<gacts.length),j<k+1->((fun i x=>(if EP i x then(87:Int) else 0,(0:Int))) j gacts[j]).1=0):=Lib.hid (fun j hj hj1=>by
                by_cases hjk:j=k
                ·subst hjk;simp[hEk]
                ·exact HZ.out j hj (by omega))
               clear hEk HZ;go_wp2_with fail;refine hc.mono ?_;rintro e w3 ⟨rfl,k3⟩;go_wp2_with fail;go_roundw
               case rel=>exact⟨k+1,by omega,by go_num,HF,hN.trans k3⟩
               case measure=>simp[intOf];omega
              |true=>
               rw[hEk] at hc;have HV:Hid (S1=(87,1,(k:Int),0)):=Lib.hid (by
                rw[HQ5.out,<-H5.out,gK hk1 HZ.out (by simp[hEk])];simp[hEk])
               clear hEk HZ;go_wp2_with fail;refine hc.mono ?_;rintro e w3 ⟨rfl,k3⟩;replace HBr:=Lib.hid (Keeps.heap k3 HBr.out (fun h=>h));replace k3:=(k1.trans hN).trans k3;obtain⟨⟨r0,r1,r2,r3⟩,⟨f0,f1,f2,f3⟩,hBB⟩:=eH HBr.out;go_wp2_with fail;exact bodyPost_ret (v:= .agg #[I 87,.int .u8 1,I k,I 0]) (by simp[results,Tryz.results64,go_sem,r0,r1,r2,r3,f0,f1,f2,f3,hBB]) rfl ⟨by rw[HV.out];rfl,((((k3).setCell (by simp) _).setCell (by simp) _).setCell (by simp) _).setCell (by simp) _⟩
             ·have hke:k=gacts.length:=by omega
              have hd9:decide (k<gacts.length)=false:=decide_eq_false hk1;rw[hke] at HZ;have HQ6:Hid (S1=(0,0,0,0)):=Lib.hid (by rw[HQ5.out,<-H5.out];exact gJ HZ.out);clear HZ hke hk hk1;replace x0:=x0r;replace x1:=x1r;replace x2:=x2r;replace x3:=x3r;replace x4:=x4r;replace HB:=HBr;replace k1:=k1.trans hN;clear hN HBr x0r x1r x2r x3r x4r;obtain⟨⟨r0,r1,r2,r3⟩,⟨f0,f1,f2,f3⟩,hBB⟩:=eH HB.out;go_wp2_with fail;exact bodyPost_ret (v:= .agg #[I 0,.int .u8 0,I 0,I 0]) (by simp[results,Tryz.results64,go_sem,r0,r1,r2,r3,f0,f1,f2,f3,hBB]) rfl ⟨by rw[HQ6.out];rfl,((((k1).setCell (by simp) _).setCell (by simp) _).setCell (by simp) _).setCell (by simp) _⟩
set_option maxRecDepth 100000 in
theorem kR (w:World) (g:Gr) (hg:GrAt w g) (hl:GLen g):
  Calls Tryz.prog 77 #[g.v] w fun en w'=>en= .returned (I (aX g).1)∧New w w':=by
 have HF:∀W,New w W->Calls Tryz.prog 64 #[g.v] W fun en w'=>en= .returned (qr (aX g))∧New W w':=fun W k=>rl W g (hg.new k) hl
 generalize aX g=fg at HF ⊢;clear hg hl;obtain⟨gname,gaa,gac,gacts,gea,gec,gedges,gia,gic,gins,goa,goc,gouts⟩:=g;obtain⟨f0,f1,f2,f3⟩:=fg;simp only[Gr.v,Gr.cs,qr] at HF ⊢;go_enter Tryz.func77,Tryz.ntmps77;go_wp2_with fail;have hN0:New w (w.alloc (.cells #[.string gname,.slice gaa gacts.length gac,.slice gea gedges.length gec,.slice gia gins.length gic,.slice goa gouts.length goc] 26)):=(New.refl w).alloc _;have hbx:(w.alloc (.cells #[.string gname,.slice gaa gacts.length gac,.slice gea gedges.length gec,.slice gia gins.length gic,.slice goa gouts.length goc] 26)).heap[w.heap.size]? =some (.cells #[.string gname,.slice gaa gacts.length gac,.slice gea gedges.length gec,.slice gia gins.length gic,.slice goa gouts.length goc] 26 (0,0)):=heap_alloc_new w _;have hs0:(w.alloc (.cells #[.string gname,.slice gaa gacts.length gac,.slice gea gedges.length gec,.slice gia gins.length gic,.slice goa gouts.length goc] 26)).heap.size=w.heap.size+1:=ay _ _;generalize(w.alloc (.cells #[.string gname,.slice gaa gacts.length gac,.slice gea gedges.length gec,.slice gia gins.length gic,.slice goa gouts.length goc] 26))=w0 at hN0 hbx hs0 ⊢;have x0:w0.cell? ⟨w.heap.size,0,none⟩=some (.string gname):=by rw[cell_of_block hbx 0];simp
 have x1:w0.cell? ⟨w.heap.size,1,none⟩=some (.slice gaa gacts.length gac):=by rw[cell_of_block hbx 1];simp
 have x2:w0.cell? ⟨w.heap.size,2,none⟩=some (.slice gea gedges.length gec):=by rw[cell_of_block hbx 2];simp
 have x3:w0.cell? ⟨w.heap.size,3,none⟩=some (.slice gia gins.length gic):=by rw[cell_of_block hbx 3];simp
 have x4:w0.cell? ⟨w.heap.size,4,none⟩=some (.slice goa gouts.length goc):=by rw[cell_of_block hbx 4];simp
 clear hbx;refine(HF w0 hN0).mono ?_;rintro e w1 ⟨rfl,k1⟩;have hfd:(Instr.field 122 (.agg #[I f0,.int .u8 f1,I f2,I f3]) 0).run Tryz.prog w1= .ok (I f0) w1:=by kernel_rfl
 go_wp2_with fail;go_ret
 exact⟨rfl,hN0.trans k1⟩
end Go.Proofs.YtnedmonlofbahaaGreatDoor
namespace Go.Proofs.YtnedmonlofbahaaGreatDoor
open Go Go.RowKit Go.Joins
set_option linter.all false
abbrev e8 (r:Nat×List Bool):Value:= .slice (some ⟨r.1,0,none⟩) r.2.length r.2.length
structure Grid (w:World) (B:Nat) (a:Option Addr) (c:Nat) (L:List (Nat×List Bool)):Prop where
 tab:w.ownsRow B 200 1 (.slice a L.length c) L.length (L.map e8)
 row:∀r∈L,w.heap[r.1]? =some (.cells (r.2.map Value.bool).toArray 4 (0,0))
 lo:∀r∈L,B<=r.1
 nd:(L.map (·.1)).Nodup
def rY:Obj->Bool
 | .map _ _=>true
 | .cells _ t _=>t==149||t==200||t==4
 |_=>false
def ui:Obj->Bool
 | .map _ _=>true
 | .cells _ t _=>t==4
 |_=>false
def KXg (p:Obj->Bool) (B:Nat) (w w':World):Prop:=Keeps (fun k=>B<=k∧∃o,w.heap[k]? =some o∧p o=true) w w'
abbrev KB (B:Nat) (w w':World):Prop:=KXg rY B w w'
abbrev KP (B:Nat) (w w':World):Prop:=KXg ui B w w'
section
variable {p:Obj->Bool}
theorem KXg.refl (B:Nat) (w:World):KXg p B w w:=Keeps.refl _ _
theorem KXg.of_new {B:Nat} {w w':World} (h:New w w'):KXg p B w w':=Keeps.mono h (fun _ _ h=>h.elim)
theorem KXg.trans {B:Nat} {a b c:World} (h:KXg p B a b) (k:KXg p B b c):KXg p B a c:=
 Keeps.trans h k (fun i hi ⟨hB,o,ho,hc⟩=>by
  refine⟨hB,?_⟩;by_cases hs:B<=i∧∃o,a.heap[i]? =some o∧p o=true
  ·exact hs.2
  ·rw[Keeps.block h i hi hs] at ho;exact⟨o,ho,hc⟩)
theorem KXg.heap {B:Nat} {w w':World} (h:KXg p B w w') {k:Nat} {o:Obj} (hk:w.heap[k]? =some o) (ho:p o=false):w'.heap[k]? =some o:=
 Keeps.heap h hk (fun⟨_,o',h1,h2⟩=>by rw[hk] at h1;cases h1;rw[ho] at h2;cases h2)
theorem KXg.new {B:Nat} {w0 w w':World} (h:KXg p B w w') (hB:B=w0.heap.size) (hN:New w0 w):New w0 w':=
 New.keeps hN h (fun i hi ⟨hb,_⟩=>by omega)
theorem KXg.size {B:Nat} {w w':World} (h:KXg p B w w'):w.heap.size<=w'.heap.size:=Keeps.size h
theorem KXg.set {B:Nat} {w:World} {b i:Nat} {cs:Array Value} {t:TypeId} {fr:Nat×Nat} (h:w.heap[b]? =some (.cells cs t fr)) (hb:B<=b) (ht:p (.cells cs t fr)=true) (v:Value):KXg p B w (w.setCell ⟨b,i,none⟩ v):=
 Keeps.setCell w _ _ ⟨hb,_,h,ht⟩
theorem KXg.to {q:Obj->Bool} {B:Nat} {w w':World} (h:KXg p B w w') (hpq:∀o,p o=true->q o=true):KXg q B w w':=Keeps.mono h (fun i _ ⟨a,o,b,c⟩=>⟨a,o,b,hpq o c⟩)
end
theorem vo (o:Obj) (h:ui o=true):rY o=true:=by
 cases o<;>simp_all[ui,rY]
theorem KXg.wide {B:Nat} {w w':World} (h:KP B w w'):KB B w w':=h.to vo
def bj (L:List (Nat×List Bool)) (x p:Int):Int:=
 if 0<=x∧x<L.length then(if 0<=p∧p<(L.getD x.toNat (0,[])).2.length then(if(L.getD x.toNat (0,[])).2.getD p.toNat false then 86 else 0) else 85) else 84
def cV (L:List (Nat×List Bool)) (x p:Int):List (Nat×List Bool):=
 if bj L x p=0 then L.set x.toNat ((L.getD x.toNat (0,[])).1,(L.getD x.toNat (0,[])).2.set p.toNat true) else L
theorem jM (L:List (Nat×List Bool)) (x p:Int):(cV L x p).length=L.length:=by unfold cV;split<;>simp
theorem iM (L:List (Nat×List Bool)) (x p:Int):(cV L x p).map (·.1)=L.map (·.1):=by
 unfold cV;split
 ·apply List.ext_getElem?;intro i;simp only[List.getElem?_map,List.getElem?_set];by_cases h:x.toNat=i
  ·subst h;by_cases hl:x.toNat<L.length
   ·simp[hl,List.getD_eq_getElem?_getD]
   ·simp[hl]
  ·simp[h]
 ·rfl
theorem pq (L:List (Nat×List Bool)) (x p:Int):(cV L x p).map e8=L.map e8:=by
 unfold cV;split
 ·apply List.ext_getElem?;intro i;simp only[List.getElem?_map,List.getElem?_set];by_cases h:x.toNat=i
  ·subst h;by_cases hl:x.toNat<L.length
   ·simp[hl,List.getD_eq_getElem?_getD]
   ·simp[hl]
  ·simp[h]
 ·rfl
theorem Grid.other {S:Nat->Prop} {w w':World} {B:Nat} {a:Option Addr} {c:Nat} {L:List (Nat×List Bool)} (h:Grid w B a c L) (k:Keeps S w w') (h1:∀i,blk a i->¬S i) (h2:∀r∈L,¬S r.1):Grid w' B a c L:=
 ⟨k.owns h.tab (fun i hi=>h1 i (bH hi)),fun r hr=>k.heap (h.row r hr) (h2 r hr),h.lo,h.nd⟩
theorem Grid.new {w w':World} {B:Nat} {a:Option Addr} {c:Nat} {L:List (Nat×List Bool)} (h:Grid w B a c L) (k:New w w'):Grid w' B a c L:=h.other k (fun _ _ h=>h) (fun _ _ h=>h)
theorem Grid.turn {w:World} {B:Nat} {a:Option Addr} {c:Nat} {L:List (Nat×List Bool)} (h:Grid w B a c L) (x p:Nat) (hx:x<L.length) (hp:p<L[x].2.length) (hf:L[x].2[p]=false):
  Grid (w.setCell ⟨L[x].1,p,none⟩ (.bool true)) B a c (cV L x p)∧bj L x p=0∧KP B w (w.setCell ⟨L[x].1,p,none⟩ (.bool true)):=by
 have hg:L.getD x (0,[])=L[x]:=by simp[List.getD_eq_getElem?_getD,hx]
 have hE:bj L x p=0:=by
  unfold bj;simp only[Int.toNat_natCast,hg];rw[if_pos (by omega),if_pos (by omega)];simp[List.getD_eq_getElem?_getD,hp,hf]
 have hL:cV L x p=L.set x (L[x].1,L[x].2.set p true):=by
  unfold cV;rw[if_pos hE];simp only[Int.toNat_natCast,hg]
 have hr:=h.row _ (List.getElem_mem hx);have hk:Keeps (fun k=>k=L[x].1) w (w.setCell ⟨L[x].1,p,none⟩ (.bool true)):=Keeps.setCell w _ _ rfl;refine⟨⟨?_,?_,?_,?_⟩,hE,KXg.set hr (h.lo _ (List.getElem_mem hx)) rfl _⟩
 ·have h0:=hk.owns h.tab (fun k hk e=>by
   subst e;obtain⟨cur,hc⟩:=be h.tab hk;rw[hr] at hc;simp at hc)
  rw[pq,jM];exact h0
 ·intro r hrm;rw[hL] at hrm;obtain⟨i,hi,rfl⟩:=List.getElem_of_mem hrm;rw[List.length_set] at hi;rw[List.getElem_set];split
  ·rename_i e;have h4:=block_setCell (i:=p) hr (.bool true);rw[h4];simp[List.map_set]
  ·rename_i e;refine hk.heap (h.row _ (List.getElem_mem hi)) (fun e2=>e ?_);have hnd:=h.nd;unfold List.Nodup at hnd;rw[List.pairwise_iff_getElem] at hnd;rcases Nat.lt_trichotomy x i with h1|h1|h1
   ·exact absurd (by rw[List.getElem_map,List.getElem_map];exact e2.symm) (hnd x i (by simpa using hx) (by simpa using hi) h1)
   ·exact h1
   ·exact absurd (by rw[List.getElem_map,List.getElem_map];exact e2) (hnd i x (by simpa using hi) (by simpa using hx) h1)
 ·intro r hrm;have:r.1∈(cV L x p).map (·.1):=List.mem_map_of_mem hrm;rw[iM] at this;obtain⟨y,hy,hye⟩:=List.mem_map.1 this;rw[<-hye];exact h.lo y hy
 ·rw[iM];exact h.nd
def px (L:List (Nat×List Bool)):Prop:=L.length<=64∧∀r∈L,r.2.length<=64
theorem pr {L:List (Nat×List Bool)} {x p:Int} (h:bj L x p≠0):cV L x p=L:=by unfold cV;rw[if_neg h]
def fZ (w:World) (B:Nat) (a:Option Addr) (c:Nat) (L:List (Nat×List Bool)) (x p:Int) (e:Ending) (w':World):Prop:=
 e= .returned (I (bj L x p))∧Grid w' B a c (cV L x p)∧KP B w w'∧Keeps (fun k=>∃r∈L,r.1=k) w w'
theorem fZ.err {w w':World} {B:Nat} {a:Option Addr} {c:Nat} {L:List (Nat×List Bool)} {x p:Int} {n:Int} (h:Grid w B a c L) (hn:n≠0) (he:bj L x p=n) (k:New w w'):fZ w B a c L x p (.returned (I n)) w':=by
 unfold fZ;rw[pr (by rw[he];exact hn),he];exact⟨rfl,h.new k,KXg.of_new k,Keeps.mono k (fun _ _ h=>h.elim)⟩
set_option maxRecDepth 100000 in
set_option maxHeartbeats 4000000 in
theorem jv (w:World) (B:Nat) (a:Option Addr) (c:Nat) (L:List (Nat×List Bool)) (x p:Int) (h:Grid w B a c L) (hl:px L):
  Calls Tryz.prog 126 #[.slice a L.length c,I x,I p] w (fZ w B a c L x p):=by
 have hl1:=hl.1;by_cases hx0:x<0
 ·have hE:bj L x p=84:=by unfold bj;rw[if_neg (by omega)]
  have HT:Hid (∀w',New w w'->fZ w B a c L x p (.returned (I 84)) w'):=Lib.hid (fun w' k=>fZ.err h (by decide) hE k);clear hE h hl;generalize fZ w B a c L x p=T at HT ⊢;go_enter Tryz.func126,Tryz.ntmps126;go_wp2_with fail;exact HT.out _ (New.refl _)
 obtain⟨x,rfl⟩:=Int.eq_ofNat_of_zero_le (by omega:0<=x);have d0:decide ((x:Int)<0)=false:=decide_eq_false hx0;clear hx0;by_cases hx:x<L.length
 case neg=>
  have hE:bj L x p=84:=by unfold bj;rw[if_neg (by omega)]
  have HT:Hid (∀w',New w w'->fZ w B a c L x p (.returned (I 84)) w'):=Lib.hid (fun w' k=>fZ.err h (by decide) hE k);have d1:decide ((x:Int)<(L.length:Int))=false:=decide_eq_false (by omega);have d2:decide ((L.length:Int)<=(x:Int))=true:=decide_eq_true (by omega);clear hE h hl;generalize fZ w B a c L x p=T at HT ⊢;go_enter Tryz.func126,Tryz.ntmps126;go_wp2_with fail;exact HT.out _ (New.refl _)
 have d1:decide ((L.length:Int)<=(x:Int))=false:=decide_eq_false (by omega);have hxI:(x:Int)<(L.length:Int):=by omega
 obtain⟨b,off,rfl,hcell⟩:=(am.of_owns h.tab).at (i:=x) (by simpa using hx);simp only[List.getElem_map] at hcell;have hrl:L[x].2.length<=64:=hl.2 _ (List.getElem_mem hx);have hg:L.getD x (0,[])=L[x]:=by simp[List.getD_eq_getElem?_getD,hx]
 by_cases hp:0<=p∧p<L[x].2.length
 case neg=>
  have hE:bj L x p=85:=by
   unfold bj;simp only[Int.toNat_natCast,hg];rw[if_pos (by omega),if_neg hp]
  have HT:Hid (∀w',New w w'->fZ w B (some ⟨b,off,none⟩) c L x p (.returned (I 85)) w'):=Lib.hid (fun w' k=>fZ.err h (by decide) hE k);clear hE h hl;generalize fZ w B (some ⟨b,off,none⟩) c L x p=T at HT ⊢;generalize L[x]=r at hcell hp hrl;by_cases hp0:p<0
  ·have d3:decide (p<0)=true:=decide_eq_true hp0;clear hp;go_enter Tryz.func126,Tryz.ntmps126;go_wp2_with fail;exact HT.out _ (New.refl _)
  ·have d3:decide (p<0)=false:=decide_eq_false hp0;have d4:decide ((r.2.length:Int)<=p)=true:=decide_eq_true (by omega);clear hp;go_enter Tryz.func126,Tryz.ntmps126;go_wp2_with fail;exact HT.out _ (New.refl _)
 obtain⟨hp0,hp1⟩:=hp;obtain⟨p,rfl⟩:=Int.eq_ofNat_of_zero_le hp0;have hp:p<L[x].2.length:=by omega
 have hbit:w.cell? ⟨L[x].1,p,none⟩=some (.bool L[x].2[p]):=by
  rw[cell_of_block (h.row _ (List.getElem_mem hx)) p];simp[hp]
 have hfz:w.frozen? ⟨L[x].1,p,none⟩=false:=unfrozen_of_block (h.row _ (List.getElem_mem hx)) p;have hbl:L[x].1<w.heap.size:=World.block_lt_of_cell? w _ hbit;have d3:decide ((p:Int)<0)=false:=decide_eq_false (by omega);have d4:decide ((L[x].2.length:Int)<=(p:Int))=false:=decide_eq_false (by omega);cases hb:L[x].2[p] with
 |true=>
  have hE:bj L x p=86:=by
   unfold bj;simp only[Int.toNat_natCast,hg];rw[if_pos (by omega),if_pos (by omega)];simp[List.getD_eq_getElem?_getD,hp,hb]
  have HT:Hid (∀w',New w w'->fZ w B (some ⟨b,off,none⟩) c L x p (.returned (I 86)) w'):=Lib.hid (fun w' k=>fZ.err h (by decide) hE k);rw[hb] at hbit;clear hE h hl hb hg;generalize fZ w B (some ⟨b,off,none⟩) c L x p=T at HT ⊢;generalize L[x]=r at hcell hp hp1 hrl hbit hfz hbl d4;go_enter Tryz.func126,Tryz.ntmps126;go_wp2_with fail;exact HT.out _ (New.refl _)
 |false=>
  obtain⟨t1,t2,t3⟩:=h.turn x p hx hp hb;have HT:Hid (fZ w B (some ⟨b,off,none⟩) c L x p (.returned (I 0)) (w.setCell ⟨L[x].1,p,none⟩ (.bool true))):=Lib.hid (by
   refine⟨by rw[t2],t1,t3,Keeps.setCell w _ _ ⟨_,List.getElem_mem hx,rfl⟩⟩)
  rw[hb] at hbit;clear h hl hb hg t1 t2 t3;generalize fZ w B (some ⟨b,off,none⟩) c L x p=T at HT ⊢;generalize L[x]=r at hcell hp hp1 hrl hbit hfz hbl d4 HT;go_enter Tryz.func126,Tryz.ntmps126;go_wp2_with fail;exact HT.out
end Go.Proofs.YtnedmonlofbahaaGreatDoor
namespace Go.Proofs.YtnedmonlofbahaaGreatDoor
open Go Go.RowKit Go.Joins
open Go.WideMaps (keyOf_string_mk)
set_option linter.all false
theorem kD:Maps.Keyed Tryz.prog 9:=Maps.string_keyed Tryz.underlying9
theorem uU (w:World):(zeroValue 3).run Tryz.prog w= .ok (.int .i64 0) w:=by kernel_rfl
def cf (w:World) (M n:Nat) (V:ByteArray->Int):Prop:=
 ∃D:DataW Unit,w.ownsMap Tryz.prog 9 (plainElem Tryz.prog 3) M n D∧∀s:ByteArray,D.atKey (.string s.data.toList) (.lit (.int .i64 0))= .lit (.int .i64 (V s))
theorem cf.made (w:World):cf (w.alloc (.map #[] 0)) w.heap.size 0 (fun _=>0):=
 ⟨_,World.ownsMap_made w _ _ _,fun s=>rfl⟩
theorem cf.keeps {S:Nat->Prop} {w w':World} {M n:Nat} {V:ByteArray->Int} (h:cf w M n V) (k:Keeps S w w') (hM:¬S M):cf w' M n V:=by
 obtain⟨D,⟨es,clock,hb,F,hs,hD⟩,hV⟩:=h;exact⟨D,⟨es,clock,k.heap hb hM,F,hs,hD⟩,hV⟩
theorem cf.new {w w':World} {M n:Nat} {V:ByteArray->Int} (h:cf w M n V) (k:New w w'):cf w' M n V:=h.keeps k (fun h=>h)
theorem cf.block {w:World} {M n:Nat} {V:ByteArray->Int} (h:cf w M n V):∃es clock,w.heap[M]? =some (.map es clock):=by
 obtain⟨D,⟨es,clock,hb,F,hs,hD⟩,hV⟩:=h;exact⟨es,clock,hb⟩
theorem cf.as {w:World} {M n:Nat} {V V':ByteArray->Int} (h:cf w M n V) (hV:∀s,V s=V' s):cf w M n V':=by
 obtain⟨D,h1,h2⟩:=h;exact⟨D,h1,fun s=>by rw[h2,hV]⟩
theorem t8 {s t:ByteArray} (h:s.data.toList=t.data.toList):s=t:=by
 cases s;cases t;simp only at h;rw[Array.toList_inj.1 h]
theorem aY {w:World} {M n:Nat} {V:ByteArray->Int} (s:ByteArray) (h:cf w M n V) (hs:s.size<=9223372036854775807):(Instr.lookup 107 (.map (some M)) (.string s) false).run Tryz.prog w= .ok (.int .i64 (V s)) w:=by
 obtain⟨D,h1,h2⟩:=h;obtain⟨c,hr,hat,_⟩:=h1.lookup_int kD (t:=107) Tryz.underlying107 Tryz.underlying3 (uU _) (keyOf_string_mk (s:=s) Tryz.underlying9 (by unfold maxLen;omega));rw[h2] at hat;simp only[DataW.lit.injEq,Lit.int.injEq,true_and] at hat;rw[hr,hat]
theorem j0 {w:World} {ops:Array Oper} {rest:List Oper} {o:Oper} {a:Act} {Q:Exit->Act->World->Prop} {M n:Nat} {V:ByteArray->Int} {s:ByteArray} {v:Int}
  (hgd:o.guard=none) (m x y:Operand) (hop:o.op=Op.mapUpdate 107 m x y) (hm:a.eval m= .map (some M)) (hx:a.eval x= .string s) (hy:a.eval y= .int .i64 v) (h:cf w M n V) (hs:s.size<=9223372036854775807) (hn:n<9223372036854775807)
  (hv:(Lit.int .i64 v).wf=true)
  (hK:∀w',cf w' M (n+1) (fun t=>if t=s then v else V t)->Keeps (fun k=>k=M) w w'->wpList Tryz.prog ops Q rest (a.put o.dst undef) w'):wpList Tryz.prog ops Q (o::rest) a w:=by
 obtain⟨D,h1,h2⟩:=h;have hkey:keyOf Tryz.prog 9 (.string s)=some (.string s.data.toList):=keyOf_string_mk Tryz.underlying9 (by unfold maxLen;omega);refine wpList_mapUpdate_own w hgd m x y 107 hop 9 3 kD Tryz.underlying107 (plainElem Tryz.prog 3) M n D hm h1 (by unfold maxLen;omega) (.string s) (.int .i64 v) (.string s.data.toList) hx hy hkey (.lit (.int .i64 v)) [] (plainElem_int Tryz.underlying3 hv) ?_;intro w' h1' hg;refine hK w' ⟨_,h1',fun t=>?_⟩ (Keeps.grown hg (fun k e=>by cases e;rfl));simp only;by_cases e:t=s
 ·subst e;rw[if_pos rfl];exact Maps.atKey_put_same h1.isMap (kD.key hkey) _ _
 ·rw[if_neg e,Maps.atKey_put_other (by intro h;simp only[Lit.string.injEq] at h;exact e (t8 h)),h2]
abbrev om (g:Gr) (M:Nat) (ia:Option Addr) (ni ic:Nat) (oa:Option Addr) (no oc:Nat):Array Value:=
 #[.string g.name,.slice g.aa g.acts.length g.ac,.slice g.ea g.edges.length g.ec,.slice g.ia g.ins.length g.ic,.slice g.oa g.outs.length g.oc,.map (some M),.slice ia ni ic,.slice oa no oc]
def j4 (ns:List ByteArray) (s:ByteArray):Int:=if ns.any (fun t=>decide (aC t=aC s)) then 1 else 0
structure Chk (w:World) (B C M:Nat) (g:Gr) (ns:List ByteArray) (ia:Option Addr) (ic:Nat) (IL:List (Nat×List Bool)) (oa:Option Addr) (oc:Nat) (OL:List (Nat×List Bool)):Prop where
 blk:w.heap[C]? =some (.cells (om g M ia IL.length ic oa OL.length oc) 149 (0,0))
 loC:B<=C
 loM:B<=M
 nm:cf w M ns.length (j4 ns)
 gi:Grid w B ia ic IL
 go:Grid w B oa oc OL
 ta:∀k,Go.Proofs.YtnedmonlofbahaaGreatDoor.blk ia k->¬Go.Proofs.YtnedmonlofbahaaGreatDoor.blk oa k
 ro:∀r∈IL,∀r'∈OL,r.1≠r'.1
theorem Chk.new {w w':World} {B C M:Nat} {g:Gr} {ns:List ByteArray} {ia:Option Addr} {ic:Nat} {IL:List (Nat×List Bool)} {oa:Option Addr} {oc:Nat} {OL:List (Nat×List Bool)} (h:Chk w B C M g ns ia ic IL oa oc OL) (k:New w w'):Chk w' B C M g ns ia ic IL oa oc OL:=
 ⟨Keeps.heap k h.blk (fun h=>h),h.loC,h.loM,h.nm.new k,h.gi.new k,h.go.new k,h.ta,h.ro⟩
theorem cH {w:World} {C:Nat} {a0 a1 a2 a3 a4 a5 a6 a7:Value} (h:w.heap[C]? =some (.cells #[a0,a1,a2,a3,a4,a5,a6,a7] 149 (0,0))):
  (w.cell? ⟨C,0,none⟩=some a0∧w.cell? ⟨C,1,none⟩=some a1∧w.cell? ⟨C,2,none⟩=some a2∧w.cell? ⟨C,3,none⟩=some a3∧w.cell? ⟨C,4,none⟩=some a4∧w.cell? ⟨C,5,none⟩=some a5∧w.cell? ⟨C,6,none⟩=some a6∧w.cell? ⟨C,7,none⟩=some a7)∧
  (∀i,w.frozen? ⟨C,i,none⟩=false)∧C<w.heap.size:=by
 refine⟨⟨?_,?_,?_,?_,?_,?_,?_,?_⟩,fun i=>unfrozen_of_block h i,(Array.getElem?_eq_some_iff.1 h).1⟩;all_goals rw[cell_of_block h];rfl
theorem qt (ns:List ByteArray) (s t:ByteArray):j4 (ns++[s]) t=if t=s then 1 else j4 ns t:=by
 unfold j4;rw[List.any_append];by_cases e:t=s
 ·subst e;simp
 ·have:¬aC s=aC t:=fun h=>e (gP.1 h).symm
  simp[e,this]
set_option maxRecDepth 100000 in
set_option maxHeartbeats 4000000 in
theorem me (w:World) (B C M:Nat) (g:Gr) (ns:List ByteArray) (ia:Option Addr) (ic:Nat) (IL:List (Nat×List Bool)) (oa:Option Addr) (oc:Nat) (OL:List (Nat×List Bool)) (s:ByteArray)
  (h:Chk w B C M g ns ia ic IL oa oc OL) (hs:s.size<=9223372036854775807) (hn:ns.length<=1000):
  Calls Tryz.prog 124 #[.pointer (some ⟨C,0,none⟩),.string s] w fun e w'=>e= .returned (I (cq ns s))∧Chk w' B C M g (if cq ns s=0 then ns++[s] else ns) ia ic IL oa oc OL∧KP B w w':=by
 obtain⟨⟨_,_,_,_,_,c5,_,_⟩,_,hCl⟩:=cH h.blk;have HN:=eR w s hs;cases e1:aM s with
 |false=>
  have hE:cq ns s=82:=by unfold cq;simp[e1]
  rw[hE,if_neg (by decide)];rw[e1] at HN;have HF:∀w',New w w'->Chk w' B C M g ns ia ic IL oa oc OL∧KP B w w':=fun w' k=>⟨h.new k,KXg.of_new k⟩
  clear h e1 hE;go_enter Tryz.func124,Tryz.ntmps124;go_wp2_with fail;refine HN.mono ?_;rintro e w2 ⟨rfl,k2⟩;go_wp2_with fail;go_ret
  exact⟨rfl,HF _ k2⟩
 |true=>
  rw[e1] at HN;cases e2:ns.any (fun t=>decide (aC t=aC s)) with
  |true=>
   have hE:cq ns s=83:=by unfold cq;simp[e1,e2]
   have hV:j4 ns s=1:=by unfold j4;simp[e2]
   rw[hE,if_neg (by decide)];have HF:∀w',New w w'->(Chk w' B C M g ns ia ic IL oa oc OL∧KP B w w')∧cf w' M ns.length (j4 ns):=fun w' k=>⟨⟨h.new k,KXg.of_new k⟩,h.nm.new k⟩
   clear h e1 e2 hE;go_enter Tryz.func124,Tryz.ntmps124;go_wp2_with fail;refine HN.mono ?_;rintro e w2 ⟨rfl,k2⟩;obtain⟨HF1,hm⟩:=HF _ k2;replace c5:=k2.cell c5;have hr:=aY s hm hs;rw[hV] at hr;clear hV HF hm;have hCl2:C<w2.heap.size:=Nat.lt_of_lt_of_le hCl k2.size;go_wp2_with fail;go_ret
   exact⟨rfl,HF1⟩
  |false=>
   have hE:cq ns s=0:=by unfold cq;simp[e1,e2]
   have hV:j4 ns s=0:=by unfold j4;simp[e2]
   rw[hE,if_pos rfl];have HF:∀w',New w w'->cf w' M ns.length (j4 ns)∧(∀w2,cf w2 M (ns.length+1) (fun t=>if t=s then 1 else j4 ns t)->Keeps (fun k=>k=M) w' w2->Chk w2 B C M g (ns++[s]) ia ic IL oa oc OL∧KP B w w2):=by
    intro w' k;have h':=h.new k;obtain⟨es,clock,hM⟩:=h'.nm.block;have hne:∀ {b:Nat} {cs:Array Value} {t:TypeId} {fr:Nat×Nat},w'.heap[b]? =some (.cells cs t fr)->¬b=M:=by
     rintro b cs t fr hb rfl;rw[hM] at hb;cases hb
    refine⟨h'.nm,fun w2 hm2 k2=>⟨⟨k2.heap h'.blk (hne h'.blk),h.loC,h.loM,?_,?_,?_,h.ta,h.ro⟩,?_⟩⟩
    ·rw[List.length_append];exact hm2.as (fun t=>(qt ns s t).symm)
    ·refine h'.gi.other k2 (fun i hi=>?_) (fun r hr=>hne (h'.gi.row r hr));obtain⟨cur,hc⟩:=be h'.gi.tab (bu hi);exact hne hc
    ·refine h'.go.other k2 (fun i hi=>?_) (fun r hr=>hne (h'.go.row r hr));obtain⟨cur,hc⟩:=be h'.go.tab (bu hi);exact hne hc
    ·refine(KXg.of_new k).trans (Keeps.mono k2 ?_);rintro i _ rfl;exact⟨h.loM,_,hM,rfl⟩
   clear h e1 e2 hE;go_enter Tryz.func124,Tryz.ntmps124;go_wp2_with fail;refine HN.mono ?_;rintro e w2 ⟨rfl,k2⟩;obtain⟨hm,HF1⟩:=HF _ k2;replace c5:=k2.cell c5;have hr:=aY s hm hs;rw[hV] at hr;clear hV HF;have hCl2:C<w2.heap.size:=Nat.lt_of_lt_of_le hCl k2.size;go_wp2_with (at_mapUpdate;refine j0 rfl _ _ _ rfl rfl rfl rfl hm hs (by omega) (by decide) ?_);intro w3 hm3 k3;have HF2:=HF1 w3 hm3 k3;clear HF1 hm hm3 hr;go_wp2_with fail;go_ret
   exact⟨rfl,HF2⟩
end Go.Proofs.YtnedmonlofbahaaGreatDoor
namespace Go.Proofs.YtnedmonlofbahaaGreatDoor
open Go Go.RowKit Go.Joins
set_option linter.all false
def bQ (g:Gr) (n:GAct->Nat) (T:Int->Int->Bool):List (List Bool):=g.acts.mapIdx fun a x=>(List.range (n x)).map fun(p:Nat)=>T a p
theorem iu (g:Gr) (n:GAct->Nat) (T:Int->Int->Bool):(bQ g n T).length=g.acts.length:=by simp[bQ]
theorem gD (g:Gr) (n:GAct->Nat) (T:Int->Int->Bool) {a:Nat} (ha:a<g.acts.length):(bQ g n T)[a]? =some ((List.range (n g.acts[a])).map fun(p:Nat)=>T a p):=by
 simp[bQ,ha]
theorem kV {g:Gr} {n:GAct->Nat} {T:Int->Int->Bool} {L:List (Nat×List Bool)} (h:L.map (·.2)=bQ g n T) {a:Nat} (ha:a<g.acts.length):
  (L.getD a (0,[])).2=(List.range (n g.acts[a])).map fun(p:Nat)=>T a p:=by
 have h1:=gD g n T ha;rw[<-h,List.getElem?_map] at h1;rw[List.getD_eq_getElem?_getD];cases hL:L[a]? with
 |none=>rw[hL] at h1;simp at h1
 |some r=>rw[hL] at h1;simpa using h1
theorem eF {g:Gr} {n:GAct->Nat} {T:Int->Int->Bool} {L:List (Nat×List Bool)} (h:L.map (·.2)=bQ g n T):L.length=g.acts.length:=by
 have:=congrArg List.length h
 rwa [List.length_map,iu] at this
theorem gZ {g:Gr} {n:GAct->Nat} {T:Int->Int->Bool} {L:List (Nat×List Bool)} (h:L.map (·.2)=bQ g n T) (x p:Int):bj L x p=cN g n (T x p) x p:=by
 unfold bj cN;rw[eF h];by_cases hx:0<=x∧x<g.acts.length
 ·rw[if_pos hx,dif_pos hx];obtain⟨a,rfl⟩:=Int.eq_ofNat_of_zero_le hx.1;have ha:a<g.acts.length:=by omega
  simp only[Int.toNat_natCast];simp only[kV h ha,List.length_map,List.length_range];by_cases hp:0<=p∧p<(n g.acts[a]:Int)
  ·rw[if_pos hp,if_pos hp];obtain⟨q,rfl⟩:=Int.eq_ofNat_of_zero_le hp.1;have hq:q<n g.acts[a]:=by omega
   simp[List.getD_eq_getElem?_getD,hq]
  ·rw[if_neg hp,if_neg hp]
 ·rw[if_neg hx,dif_neg hx]
theorem pt {g:Gr} {n:GAct->Nat} {T:Int->Int->Bool} {L:List (Nat×List Bool)} (h:L.map (·.2)=bQ g n T) {x p:Int} (hE:bj L x p=0):
  (cV L x p).map (·.2)=bQ g n (fun a q=>T a q||decide (x=a∧p=q)):=by
 have hb:(0<=x∧x<L.length)∧(0<=p∧p<(L.getD x.toNat (0,[])).2.length):=by
  unfold bj at hE;split at hE
  ·split at hE
   ·exact⟨‹_›,‹_›⟩
   ·cases hE
  ·cases hE
 obtain⟨⟨hx0,hx1⟩,hp0,hp1⟩:=hb;obtain⟨a,rfl⟩:=Int.eq_ofNat_of_zero_le hx0;obtain⟨q,rfl⟩:=Int.eq_ofNat_of_zero_le hp0;unfold cV;rw[if_pos hE];simp only[Int.toNat_natCast] at*;have hla:=eF h;have ha:a<g.acts.length:=by omega
 have hr:=kV h ha;rw[hr] at hp1;simp only[List.length_map,List.length_range] at hp1;apply List.ext_getElem?;intro i;rw[List.getElem?_map,List.getElem?_set];by_cases hi:a=i
 ·subst hi;rw[if_pos rfl,if_pos (by omega)];rw[gD g n _ ha];simp only[Option.map_some,Option.some.injEq,hr];apply List.ext_getElem?;intro j;rw[List.getElem?_set];by_cases hj:q=j
  ·subst hj;simp[show q<n g.acts[a] by omega]
  ·rw[if_neg hj];by_cases hjn:j<n g.acts[a]
   ·have:¬((q:Int)=(j:Int)):=by omega
    simp[hjn,this]
   ·simp[hjn]
 ·rw[if_neg hi];by_cases hil:i<g.acts.length
  ·rw[gD g n _ hil];have h1:=gD g n T hil;rw[<-h,List.getElem?_map] at h1;rw[h1];have:¬((a:Int)=(i:Int)):=by omega
   simp[this]
  ·have h1:(bQ g n (fun a' q'=>T a' q'||decide ((a:Int)=a'∧(q:Int)=q')))[i]? =none:=by rw[List.getElem?_eq_none_iff,iu];omega
   rw[h1,List.getElem?_eq_none (by omega)];rfl
theorem kZ {g:Gr} {n:GAct->Nat} {T U:Int->Int->Bool} (h:∀a p,T a p=U a p):bQ g n T=bQ g n U:=by
 have:T=U:=funext fun a=>funext fun p=>h a p
 rw[this]
theorem lY (g:Gr) (n:GAct->Nat):bQ g n (fun _ _=>false)=g.acts.map fun x=>List.replicate (n x) false:=by
 apply List.ext_getElem?;intro i;by_cases hi:i<g.acts.length
 ·rw[gD g n _ hi];simp[hi,List.map_const']
 ·rw[List.getElem?_eq_none (by rw[iu];omega),List.getElem?_eq_none (by simp;omega)]
theorem oR (g:Gr) (a p:Int):aU g 0 0 a p=false:=by simp[aU]
theorem qx (g:Gr) (a p:Int):bG g 0 0 a p=false:=by simp[bG]
theorem oQ (g:Gr) {k:Nat} (hk:k<g.edges.length) (a p:Int):aU g (k+1) 0 a p=(aU g k 0 a p||decide (g.edges[k].f=a∧g.edges[k].fp=p)):=by
 unfold aU;rw[List.take_succ_eq_append_getElem hk,List.any_append];simp
theorem qw (g:Gr) {k:Nat} (hk:k<g.edges.length) (a p:Int):bG g (k+1) 0 a p=(bG g k 0 a p||decide (g.edges[k].t=a∧g.edges[k].tp=p)):=by
 unfold bG;rw[List.take_succ_eq_append_getElem hk,List.any_append];simp
theorem qT (g:Gr) (e:Nat) {k:Nat} (hk:k<g.outs.length) (a p:Int):aU g e (k+1) a p=(aU g e k a p||decide (g.outs[k].ac=a∧g.outs[k].po=p)):=by
 unfold aU;rw[List.take_succ_eq_append_getElem hk,List.any_append];simp[Bool.or_assoc]
theorem uo (g:Gr) (e:Nat) {k:Nat} (hk:k<g.ins.length) (a p:Int):bG g e (k+1) a p=(bG g e k a p||decide (g.ins[k].ac=a∧g.ins[k].po=p)):=by
 unfold bG;rw[List.take_succ_eq_append_getElem hk,List.any_append];simp[Bool.or_assoc]
theorem qI (g:Gr) {k:Nat} (hk:k<g.acts.length):aq g (k+1) 0 0=aq g k 0 0++[g.acts[k].name]:=by
 unfold aq;simp only[List.take_succ_eq_append_getElem hk,List.map_append,List.map_cons,List.map_nil,List.take_zero,List.append_nil,List.append_assoc]
theorem sO (g:Gr) (a:Nat) {k:Nat} (hk:k<g.ins.length):aq g a (k+1) 0=aq g a k 0++[g.ins[k].name]:=by
 unfold aq;simp only[List.take_succ_eq_append_getElem hk,List.map_append,List.map_cons,List.map_nil,List.take_zero,List.append_nil,List.append_assoc]
theorem qJ (g:Gr) (a i:Nat) {k:Nat} (hk:k<g.outs.length):aq g a i (k+1)=aq g a i k++[g.outs[k].name]:=by
 unfold aq;simp only[List.take_succ_eq_append_getElem hk,List.map_append,List.map_cons,List.map_nil,List.take_zero,List.append_nil,List.append_assoc]
theorem jG (g:Gr) (a i o:Nat):(aq g a i o).length<=a+i+o:=by
 unfold aq;simp only[List.length_append,List.length_map,List.length_take];omega
theorem ff {α:Type} {E:Nat->α->Int×Int} {l:List α} {k:Nat} (hk:k<l.length) (hb:∀j (hj:j<l.length),j<k->(E j l[j]).1=0) (hh:(E k l[k]).1≠0):aL E 0 l=some (k,E k l[k]):=by
 have h:=kp (E:=E) l 0 k hk (fun j hj hjk=>by simpa using hb j hj hjk) (by simpa using hh);simpa using h
theorem fO {α:Type} {E:Nat->α->Int×Int} {l:List α} (hb:∀j (hj:j<l.length),j<l.length->(E j l[j]).1=0):aL E 0 l=none:=
 dB l 0 (fun j hj=>by simpa using hb j hj hj)
def iQ (e k i d:Int):Value:= .tuple #[I e,.agg #[.int .u8 k,I i,I d]]
def cv (r:Option (Nat×Int×Int)) (kind:Int) (ok:World->Prop) (e:Ending) (w':World):Prop:=match r with
 |some (i,x,d)=>e= .returned (iQ x kind i d)
 |none=>e= .returned (iQ 0 0 0 0)∧ok w'
theorem aK {w:World} {B:Nat} {a b c:Value} (h:w.heap[B]? =some (.cells #[a,b,c] 85 (0,0))):
  (w.cell? ⟨B,0,none⟩=some a∧w.cell? ⟨B,1,none⟩=some b∧w.cell? ⟨B,2,none⟩=some c)∧(w.frozen? ⟨B,0,none⟩=false∧w.frozen? ⟨B,1,none⟩=false∧w.frozen? ⟨B,2,none⟩=false)∧B<w.heap.size:=by
 refine⟨⟨?_,?_,?_⟩,⟨unfrozen_of_block h 0,unfrozen_of_block h 1,unfrozen_of_block h 2⟩,(Array.getElem?_eq_some_iff.1 h).1⟩;all_goals rw[cell_of_block h];rfl
end Go.Proofs.YtnedmonlofbahaaGreatDoor
